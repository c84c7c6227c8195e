import Derived.Test.YtolnloeapbplkaaConsole
import Derived.Deep.RegionHeld3
import Derived.Deep.DeepCutAuto
/- The walk of laws.FnExactNewConsole: the Go text returns true and writes to nothing that was there. -/
set_option linter.unusedVariables false
namespace Go.Proofs.Ytolnloeapbplkaa
open Go.ChangeShapes Go.WideShapes Go.ChangeAt Go.RowKit

set_option maxRecDepth 100000 in
set_option maxHeartbeats 4000000 in
theorem walk_FnExactNewConsole (pa0_0 : Option Addr) (qa0_0 ra0_0 : Nat) (xa0_0 : List Int) (pa0_1 : Option Addr) (qa0_1 ra0_1 : Nat) (xa0_1 : List Int) (pa0_2 : Option Addr) (qa0_2 ra0_2 : Nat) (xa0_2 : List Int) (ya0_0 : Int) (ya0_1 : Int) (ya0_2 : Int) (ya0_3 : Int) (w : World) (sa0_0 : SL w pa0_0 qa0_0 ra0_0 xa0_0) (sa0_1 : SL w pa0_1 qa0_1 ra0_1 xa0_1) (sa0_2 : SL w pa0_2 qa0_2 ra0_2 xa0_2) (ia0_0 : I64 ya0_0) (ia0_1 : I64 ya0_1) (ia0_2 : I64 ya0_2) (ia0_3 : I64 ya0_3) :
    Calls Try.prog 4 #[.agg #[.slice pa0_0 qa0_0 ra0_0, .slice pa0_1 qa0_1 ra0_1, .slice pa0_2 qa0_2 ra0_2, .int .i64 ya0_0, .int .i64 ya0_1, .int .i64 ya0_2, .int .i64 ya0_3]] w fun e w' => e = .returned (.bool true) ∧ Fr w w' := by
  have hF0 : Fr w (w.alloc (.cells #[.slice pa0_0 qa0_0 ra0_0, .slice pa0_1 qa0_1 ra0_1, .slice pa0_2 qa0_2 ra0_2, .int .i64 ya0_0, .int .i64 ya0_1, .int .i64 ya0_2, .int .i64 ya0_3] 33)) := (Fr.refl w).alloc _
  have BxaH0 := Blk.new w #[.slice pa0_0 qa0_0 ra0_0, .slice pa0_1 qa0_1 ra0_1, .slice pa0_2 qa0_2 ra0_2, .int .i64 ya0_0, .int .i64 ya0_1, .int .i64 ya0_2, .int .i64 ya0_3] 33
  have BxaH := Lib.hid BxaH0; clear BxaH0
  have na0_0 : qa0_0 ≤ 9223372036854775807 := by have := sa0_0.le; have := sa0_0.mx; omega
  have na0_1 : qa0_1 ≤ 9223372036854775807 := by have := sa0_1.le; have := sa0_1.mx; omega
  have na0_2 : qa0_2 ≤ 9223372036854775807 := by have := sa0_2.le; have := sa0_2.mx; omega
  by_cases hz0 : szH qa0_0 qa0_1 qa0_2 1048576 < 0
  · go_enter Try.func4, Try.ntmps4
    go_wp2_with fail
    refine (szHouse_any _ _ _ _ _ _ _ _ _ _ _ _ _ _ _ na0_0 na0_1 na0_2 (by omega) (by omega)).mono ?_
    rintro e v0 ⟨rfl, hv0⟩
    have hF1 := hF0.trans hv0
    go_wp2
    go_ret
    exact ⟨rfl, hF1⟩
  have hr0 := szH_rng qa0_0 qa0_1 qa0_2 1048576 (by omega)
  have hf0 := szH_fit hz0
  go_enter Try.func4, Try.ntmps4
  go_wp2_with fail
  refine (szHouse_any _ _ _ _ _ _ _ _ _ _ _ _ _ _ _ na0_0 na0_1 na0_2 (by omega) (by omega)).mono ?_
  rintro e v0 ⟨rfl, hv0⟩
  have hF1 := hF0.trans hv0
  replace BxaH := Lib.hid (BxaH.out.fr hv0)
  have hF := hF1
  have zz := hF.size
  have naH := BxaH.out.lt
  have HZ0 := Lib.hid hf0.2.2.2
  obtain ⟨hb0_0, hb0_1, hb0_2, -⟩ := hf0
  have kaH_0 := BxaH.out.cell (j := 0) (v := .slice pa0_0 qa0_0 ra0_0) rfl
  have kaH_1 := BxaH.out.cell (j := 1) (v := .slice pa0_1 qa0_1 ra0_1) rfl
  have kaH_2 := BxaH.out.cell (j := 2) (v := .slice pa0_2 qa0_2 ra0_2) rfl
  have kaH_3 := BxaH.out.cell (j := 3) (v := .int .i64 ya0_0) rfl
  have kaH_4 := BxaH.out.cell (j := 4) (v := .int .i64 ya0_1) rfl
  have kaH_5 := BxaH.out.cell (j := 5) (v := .int .i64 ya0_2) rfl
  have kaH_6 := BxaH.out.cell (j := 6) (v := .int .i64 ya0_3) rfl
  have hFx := hF
  go_wp2_with fail
  clear kaH_0 kaH_1 kaH_2 kaH_3 kaH_4 kaH_5 kaH_6
  refine (toHouse_any _ _ _ _ _ _ _ _ _ _ _ _ _ _ _ _ _ (sa0_0.fr hFx) (sa0_1.fr hFx) (sa0_2.fr hFx) (by omega) (by omega) (by omega)).mono ?_
  rintro e w1 ⟨p1_0, q1_0, r1_0, p1_1, q1_1, r1_1, p1_2, q1_2, r1_2, M1_0, M1_1, rfl, o1_0, o1_1, o1_2, l1_0, l1_1, y1_0, y1_1, y1_2, f1, e1_0, e1_1, e1_2⟩
  replace BxaH := Lib.hid (BxaH.out.fr f1)
  have g1 := hF.size
  have z1 := f1.size
  replace hF := hF.trans f1
  clear f1
  have kaH_0 := BxaH.out.cell (j := 0) (v := .slice pa0_0 qa0_0 ra0_0) rfl
  have kaH_1 := BxaH.out.cell (j := 1) (v := .slice pa0_1 qa0_1 ra0_1) rfl
  have kaH_2 := BxaH.out.cell (j := 2) (v := .slice pa0_2 qa0_2 ra0_2) rfl
  have kaH_3 := BxaH.out.cell (j := 3) (v := .int .i64 ya0_0) rfl
  have kaH_4 := BxaH.out.cell (j := 4) (v := .int .i64 ya0_1) rfl
  have kaH_5 := BxaH.out.cell (j := 5) (v := .int .i64 ya0_2) rfl
  have kaH_6 := BxaH.out.cell (j := 6) (v := .int .i64 ya0_3) rfl
  clear hFx
  have l1_2 := o1_2.within
  have hFx := hF
  go_wp2_with fail
  clear kaH_0 kaH_1 kaH_2 kaH_3 kaH_4 kaH_5 kaH_6
  refine (spec_NewConsole_any _ _ _ _ _ _ _ _ _ _ _ _ _ _ _ _ _ o1_0.sl o1_1.sl o1_2.sl).mono ?_
  rintro e w2 ⟨p2_0, q2_0, r2_0, p2_1, q2_1, r2_1, p2_2, q2_2, r2_2, M2_0, M2_1, rfl, o2_0, o2_1, o2_2, l2_0, l2_1, y2_0, y2_1, y2_2, f2, e2_0, e2_1, e2_2⟩
  replace BxaH := Lib.hid (BxaH.out.fr f2)
  replace o1_0 := o1_0.fr f2
  replace o1_1 := o1_1.fr f2
  replace o1_2 := o1_2.fr f2
  have g2 := hF.size
  have z2 := f2.size
  replace hF := hF.trans f2
  clear f2
  have kaH_0 := BxaH.out.cell (j := 0) (v := .slice pa0_0 qa0_0 ra0_0) rfl
  have kaH_1 := BxaH.out.cell (j := 1) (v := .slice pa0_1 qa0_1 ra0_1) rfl
  have kaH_2 := BxaH.out.cell (j := 2) (v := .slice pa0_2 qa0_2 ra0_2) rfl
  have kaH_3 := BxaH.out.cell (j := 3) (v := .int .i64 ya0_0) rfl
  have kaH_4 := BxaH.out.cell (j := 4) (v := .int .i64 ya0_1) rfl
  have kaH_5 := BxaH.out.cell (j := 5) (v := .int .i64 ya0_2) rfl
  have kaH_6 := BxaH.out.cell (j := 6) (v := .int .i64 ya0_3) rfl
  clear hFx
  have l2_2 := o2_2.within
  clear kaH_0 kaH_1 kaH_2 kaH_3 kaH_4 kaH_5 kaH_6
  have kaH_0 := (BxaH.out.alloc (.cells #[.slice p2_0 q2_0 r2_0, .slice p2_1 q2_1 r2_1, .slice p2_2 q2_2 r2_2, .int .i64 ((dV (houseB xa0_0 xa0_1 xa0_2 ya0_0 ya0_1 ya0_2 ya0_3) ya0_0)), .int .i64 ((dV (houseB xa0_0 xa0_1 xa0_2 ya0_0 ya0_1 ya0_2 ya0_3) ya0_1)), .int .i64 ((dV (houseB xa0_0 xa0_1 xa0_2 ya0_0 ya0_1 ya0_2 ya0_3) ya0_2)), .int .i64 ((dV (houseB xa0_0 xa0_1 xa0_2 ya0_0 ya0_1 ya0_2 ya0_3) ya0_3)), .string ⟨#[]⟩, .string ⟨#[]⟩, .int .i64 (0)] 41)).cell (j := 0) (v := .slice pa0_0 qa0_0 ra0_0) rfl
  have kaH_1 := (BxaH.out.alloc (.cells #[.slice p2_0 q2_0 r2_0, .slice p2_1 q2_1 r2_1, .slice p2_2 q2_2 r2_2, .int .i64 ((dV (houseB xa0_0 xa0_1 xa0_2 ya0_0 ya0_1 ya0_2 ya0_3) ya0_0)), .int .i64 ((dV (houseB xa0_0 xa0_1 xa0_2 ya0_0 ya0_1 ya0_2 ya0_3) ya0_1)), .int .i64 ((dV (houseB xa0_0 xa0_1 xa0_2 ya0_0 ya0_1 ya0_2 ya0_3) ya0_2)), .int .i64 ((dV (houseB xa0_0 xa0_1 xa0_2 ya0_0 ya0_1 ya0_2 ya0_3) ya0_3)), .string ⟨#[]⟩, .string ⟨#[]⟩, .int .i64 (0)] 41)).cell (j := 1) (v := .slice pa0_1 qa0_1 ra0_1) rfl
  have kaH_2 := (BxaH.out.alloc (.cells #[.slice p2_0 q2_0 r2_0, .slice p2_1 q2_1 r2_1, .slice p2_2 q2_2 r2_2, .int .i64 ((dV (houseB xa0_0 xa0_1 xa0_2 ya0_0 ya0_1 ya0_2 ya0_3) ya0_0)), .int .i64 ((dV (houseB xa0_0 xa0_1 xa0_2 ya0_0 ya0_1 ya0_2 ya0_3) ya0_1)), .int .i64 ((dV (houseB xa0_0 xa0_1 xa0_2 ya0_0 ya0_1 ya0_2 ya0_3) ya0_2)), .int .i64 ((dV (houseB xa0_0 xa0_1 xa0_2 ya0_0 ya0_1 ya0_2 ya0_3) ya0_3)), .string ⟨#[]⟩, .string ⟨#[]⟩, .int .i64 (0)] 41)).cell (j := 2) (v := .slice pa0_2 qa0_2 ra0_2) rfl
  have kaH_3 := (BxaH.out.alloc (.cells #[.slice p2_0 q2_0 r2_0, .slice p2_1 q2_1 r2_1, .slice p2_2 q2_2 r2_2, .int .i64 ((dV (houseB xa0_0 xa0_1 xa0_2 ya0_0 ya0_1 ya0_2 ya0_3) ya0_0)), .int .i64 ((dV (houseB xa0_0 xa0_1 xa0_2 ya0_0 ya0_1 ya0_2 ya0_3) ya0_1)), .int .i64 ((dV (houseB xa0_0 xa0_1 xa0_2 ya0_0 ya0_1 ya0_2 ya0_3) ya0_2)), .int .i64 ((dV (houseB xa0_0 xa0_1 xa0_2 ya0_0 ya0_1 ya0_2 ya0_3) ya0_3)), .string ⟨#[]⟩, .string ⟨#[]⟩, .int .i64 (0)] 41)).cell (j := 3) (v := .int .i64 ya0_0) rfl
  have kaH_4 := (BxaH.out.alloc (.cells #[.slice p2_0 q2_0 r2_0, .slice p2_1 q2_1 r2_1, .slice p2_2 q2_2 r2_2, .int .i64 ((dV (houseB xa0_0 xa0_1 xa0_2 ya0_0 ya0_1 ya0_2 ya0_3) ya0_0)), .int .i64 ((dV (houseB xa0_0 xa0_1 xa0_2 ya0_0 ya0_1 ya0_2 ya0_3) ya0_1)), .int .i64 ((dV (houseB xa0_0 xa0_1 xa0_2 ya0_0 ya0_1 ya0_2 ya0_3) ya0_2)), .int .i64 ((dV (houseB xa0_0 xa0_1 xa0_2 ya0_0 ya0_1 ya0_2 ya0_3) ya0_3)), .string ⟨#[]⟩, .string ⟨#[]⟩, .int .i64 (0)] 41)).cell (j := 4) (v := .int .i64 ya0_1) rfl
  have kaH_5 := (BxaH.out.alloc (.cells #[.slice p2_0 q2_0 r2_0, .slice p2_1 q2_1 r2_1, .slice p2_2 q2_2 r2_2, .int .i64 ((dV (houseB xa0_0 xa0_1 xa0_2 ya0_0 ya0_1 ya0_2 ya0_3) ya0_0)), .int .i64 ((dV (houseB xa0_0 xa0_1 xa0_2 ya0_0 ya0_1 ya0_2 ya0_3) ya0_1)), .int .i64 ((dV (houseB xa0_0 xa0_1 xa0_2 ya0_0 ya0_1 ya0_2 ya0_3) ya0_2)), .int .i64 ((dV (houseB xa0_0 xa0_1 xa0_2 ya0_0 ya0_1 ya0_2 ya0_3) ya0_3)), .string ⟨#[]⟩, .string ⟨#[]⟩, .int .i64 (0)] 41)).cell (j := 5) (v := .int .i64 ya0_2) rfl
  have kaH_6 := (BxaH.out.alloc (.cells #[.slice p2_0 q2_0 r2_0, .slice p2_1 q2_1 r2_1, .slice p2_2 q2_2 r2_2, .int .i64 ((dV (houseB xa0_0 xa0_1 xa0_2 ya0_0 ya0_1 ya0_2 ya0_3) ya0_0)), .int .i64 ((dV (houseB xa0_0 xa0_1 xa0_2 ya0_0 ya0_1 ya0_2 ya0_3) ya0_1)), .int .i64 ((dV (houseB xa0_0 xa0_1 xa0_2 ya0_0 ya0_1 ya0_2 ya0_3) ya0_2)), .int .i64 ((dV (houseB xa0_0 xa0_1 xa0_2 ya0_0 ya0_1 ya0_2 ya0_3) ya0_3)), .string ⟨#[]⟩, .string ⟨#[]⟩, .int .i64 (0)] 41)).cell (j := 6) (v := .int .i64 ya0_3) rfl
  have hFx := hF.alloc (.cells #[.slice p2_0 q2_0 r2_0, .slice p2_1 q2_1 r2_1, .slice p2_2 q2_2 r2_2, .int .i64 ((dV (houseB xa0_0 xa0_1 xa0_2 ya0_0 ya0_1 ya0_2 ya0_3) ya0_0)), .int .i64 ((dV (houseB xa0_0 xa0_1 xa0_2 ya0_0 ya0_1 ya0_2 ya0_3) ya0_1)), .int .i64 ((dV (houseB xa0_0 xa0_1 xa0_2 ya0_0 ya0_1 ya0_2 ya0_3) ya0_2)), .int .i64 ((dV (houseB xa0_0 xa0_1 xa0_2 ya0_0 ya0_1 ya0_2 ya0_3) ya0_3)), .string ⟨#[]⟩, .string ⟨#[]⟩, .int .i64 (0)] 41)
  go_wp2_with fail
  clear kaH_0 kaH_1 kaH_2 kaH_3 kaH_4 kaH_5 kaH_6
  refine (toHouse_any _ _ _ _ _ _ _ _ _ _ _ _ _ _ _ _ _ (sa0_0.fr hFx) (sa0_1.fr hFx) (sa0_2.fr hFx) (by omega) (by omega) (by omega)).mono ?_
  rintro e w3 ⟨p3_0, q3_0, r3_0, p3_1, q3_1, r3_1, p3_2, q3_2, r3_2, M3_0, M3_1, rfl, o3_0, o3_1, o3_2, l3_0, l3_1, y3_0, y3_1, y3_2, f3, e3_0, e3_1, e3_2⟩
  have Bxw0 := Lib.hid ((Blk.new w2 #[.slice p2_0 q2_0 r2_0, .slice p2_1 q2_1 r2_1, .slice p2_2 q2_2 r2_2, .int .i64 ((dV (houseB xa0_0 xa0_1 xa0_2 ya0_0 ya0_1 ya0_2 ya0_3) ya0_0)), .int .i64 ((dV (houseB xa0_0 xa0_1 xa0_2 ya0_0 ya0_1 ya0_2 ya0_3) ya0_1)), .int .i64 ((dV (houseB xa0_0 xa0_1 xa0_2 ya0_0 ya0_1 ya0_2 ya0_3) ya0_2)), .int .i64 ((dV (houseB xa0_0 xa0_1 xa0_2 ya0_0 ya0_1 ya0_2 ya0_3) ya0_3)), .string ⟨#[]⟩, .string ⟨#[]⟩, .int .i64 (0)] 41).fr f3)
  have fx3 := ((Fr.refl _).alloc (.cells #[.slice p2_0 q2_0 r2_0, .slice p2_1 q2_1 r2_1, .slice p2_2 q2_2 r2_2, .int .i64 ((dV (houseB xa0_0 xa0_1 xa0_2 ya0_0 ya0_1 ya0_2 ya0_3) ya0_0)), .int .i64 ((dV (houseB xa0_0 xa0_1 xa0_2 ya0_0 ya0_1 ya0_2 ya0_3) ya0_1)), .int .i64 ((dV (houseB xa0_0 xa0_1 xa0_2 ya0_0 ya0_1 ya0_2 ya0_3) ya0_2)), .int .i64 ((dV (houseB xa0_0 xa0_1 xa0_2 ya0_0 ya0_1 ya0_2 ya0_3) ya0_3)), .string ⟨#[]⟩, .string ⟨#[]⟩, .int .i64 (0)] 41)).trans f3
  have nw0 := Bxw0.out.lt
  have ha3 : w2.heap.size + 1 ≤ (w2.alloc (.cells #[.slice p2_0 q2_0 r2_0, .slice p2_1 q2_1 r2_1, .slice p2_2 q2_2 r2_2, .int .i64 ((dV (houseB xa0_0 xa0_1 xa0_2 ya0_0 ya0_1 ya0_2 ya0_3) ya0_0)), .int .i64 ((dV (houseB xa0_0 xa0_1 xa0_2 ya0_0 ya0_1 ya0_2 ya0_3) ya0_1)), .int .i64 ((dV (houseB xa0_0 xa0_1 xa0_2 ya0_0 ya0_1 ya0_2 ya0_3) ya0_2)), .int .i64 ((dV (houseB xa0_0 xa0_1 xa0_2 ya0_0 ya0_1 ya0_2 ya0_3) ya0_3)), .string ⟨#[]⟩, .string ⟨#[]⟩, .int .i64 (0)] 41)).heap.size ∧ (w2.alloc (.cells #[.slice p2_0 q2_0 r2_0, .slice p2_1 q2_1 r2_1, .slice p2_2 q2_2 r2_2, .int .i64 ((dV (houseB xa0_0 xa0_1 xa0_2 ya0_0 ya0_1 ya0_2 ya0_3) ya0_0)), .int .i64 ((dV (houseB xa0_0 xa0_1 xa0_2 ya0_0 ya0_1 ya0_2 ya0_3) ya0_1)), .int .i64 ((dV (houseB xa0_0 xa0_1 xa0_2 ya0_0 ya0_1 ya0_2 ya0_3) ya0_2)), .int .i64 ((dV (houseB xa0_0 xa0_1 xa0_2 ya0_0 ya0_1 ya0_2 ya0_3) ya0_3)), .string ⟨#[]⟩, .string ⟨#[]⟩, .int .i64 (0)] 41)).heap.size ≤ w2.heap.size + 1 := by simp
  have za3 := f3.size
  clear f3; have f3 := fx3; clear fx3
  replace BxaH := Lib.hid (BxaH.out.fr f3)
  replace o1_0 := o1_0.fr f3
  replace o1_1 := o1_1.fr f3
  replace o1_2 := o1_2.fr f3
  replace o2_0 := o2_0.fr f3
  replace o2_1 := o2_1.fr f3
  replace o2_2 := o2_2.fr f3
  have g3 := hF.size
  have z3 := f3.size
  replace hF := hF.trans f3
  clear f3
  have kaH_0 := BxaH.out.cell (j := 0) (v := .slice pa0_0 qa0_0 ra0_0) rfl
  have kaH_1 := BxaH.out.cell (j := 1) (v := .slice pa0_1 qa0_1 ra0_1) rfl
  have kaH_2 := BxaH.out.cell (j := 2) (v := .slice pa0_2 qa0_2 ra0_2) rfl
  have kaH_3 := BxaH.out.cell (j := 3) (v := .int .i64 ya0_0) rfl
  have kaH_4 := BxaH.out.cell (j := 4) (v := .int .i64 ya0_1) rfl
  have kaH_5 := BxaH.out.cell (j := 5) (v := .int .i64 ya0_2) rfl
  have kaH_6 := BxaH.out.cell (j := 6) (v := .int .i64 ya0_3) rfl
  have kw0_0 := Bxw0.out.cell (j := 0) (v := .slice p2_0 q2_0 r2_0) rfl
  have kw0_1 := Bxw0.out.cell (j := 1) (v := .slice p2_1 q2_1 r2_1) rfl
  have kw0_2 := Bxw0.out.cell (j := 2) (v := .slice p2_2 q2_2 r2_2) rfl
  have kw0_3 := Bxw0.out.cell (j := 3) (v := .int .i64 ((dV (houseB xa0_0 xa0_1 xa0_2 ya0_0 ya0_1 ya0_2 ya0_3) ya0_0))) rfl
  have kw0_4 := Bxw0.out.cell (j := 4) (v := .int .i64 ((dV (houseB xa0_0 xa0_1 xa0_2 ya0_0 ya0_1 ya0_2 ya0_3) ya0_1))) rfl
  have kw0_5 := Bxw0.out.cell (j := 5) (v := .int .i64 ((dV (houseB xa0_0 xa0_1 xa0_2 ya0_0 ya0_1 ya0_2 ya0_3) ya0_2))) rfl
  have kw0_6 := Bxw0.out.cell (j := 6) (v := .int .i64 ((dV (houseB xa0_0 xa0_1 xa0_2 ya0_0 ya0_1 ya0_2 ya0_3) ya0_3))) rfl
  have kw0_7 := Bxw0.out.cell (j := 7) (v := .string ⟨#[]⟩) rfl
  have kw0_8 := Bxw0.out.cell (j := 8) (v := .string ⟨#[]⟩) rfl
  have kw0_9 := Bxw0.out.cell (j := 9) (v := .int .i64 (0)) rfl
  clear hFx
  have l3_2 := o3_2.within
  clear kaH_0 kaH_1 kaH_2 kaH_3 kaH_4 kaH_5 kaH_6 kw0_0 kw0_1 kw0_2 kw0_3 kw0_4 kw0_5 kw0_6 kw0_7 kw0_8 kw0_9
  have kaH_0 := (BxaH.out.alloc (.cells #[.slice p3_0 q3_0 r3_0, .slice p3_1 q3_1 r3_1, .slice p3_2 q3_2 r3_2, .int .i64 (ya0_0), .int .i64 (ya0_1), .int .i64 (ya0_2), .int .i64 (ya0_3)] 37)).cell (j := 0) (v := .slice pa0_0 qa0_0 ra0_0) rfl
  have kaH_1 := (BxaH.out.alloc (.cells #[.slice p3_0 q3_0 r3_0, .slice p3_1 q3_1 r3_1, .slice p3_2 q3_2 r3_2, .int .i64 (ya0_0), .int .i64 (ya0_1), .int .i64 (ya0_2), .int .i64 (ya0_3)] 37)).cell (j := 1) (v := .slice pa0_1 qa0_1 ra0_1) rfl
  have kaH_2 := (BxaH.out.alloc (.cells #[.slice p3_0 q3_0 r3_0, .slice p3_1 q3_1 r3_1, .slice p3_2 q3_2 r3_2, .int .i64 (ya0_0), .int .i64 (ya0_1), .int .i64 (ya0_2), .int .i64 (ya0_3)] 37)).cell (j := 2) (v := .slice pa0_2 qa0_2 ra0_2) rfl
  have kaH_3 := (BxaH.out.alloc (.cells #[.slice p3_0 q3_0 r3_0, .slice p3_1 q3_1 r3_1, .slice p3_2 q3_2 r3_2, .int .i64 (ya0_0), .int .i64 (ya0_1), .int .i64 (ya0_2), .int .i64 (ya0_3)] 37)).cell (j := 3) (v := .int .i64 ya0_0) rfl
  have kaH_4 := (BxaH.out.alloc (.cells #[.slice p3_0 q3_0 r3_0, .slice p3_1 q3_1 r3_1, .slice p3_2 q3_2 r3_2, .int .i64 (ya0_0), .int .i64 (ya0_1), .int .i64 (ya0_2), .int .i64 (ya0_3)] 37)).cell (j := 4) (v := .int .i64 ya0_1) rfl
  have kaH_5 := (BxaH.out.alloc (.cells #[.slice p3_0 q3_0 r3_0, .slice p3_1 q3_1 r3_1, .slice p3_2 q3_2 r3_2, .int .i64 (ya0_0), .int .i64 (ya0_1), .int .i64 (ya0_2), .int .i64 (ya0_3)] 37)).cell (j := 5) (v := .int .i64 ya0_2) rfl
  have kaH_6 := (BxaH.out.alloc (.cells #[.slice p3_0 q3_0 r3_0, .slice p3_1 q3_1 r3_1, .slice p3_2 q3_2 r3_2, .int .i64 (ya0_0), .int .i64 (ya0_1), .int .i64 (ya0_2), .int .i64 (ya0_3)] 37)).cell (j := 6) (v := .int .i64 ya0_3) rfl
  have kw0_0 := (Bxw0.out.alloc (.cells #[.slice p3_0 q3_0 r3_0, .slice p3_1 q3_1 r3_1, .slice p3_2 q3_2 r3_2, .int .i64 (ya0_0), .int .i64 (ya0_1), .int .i64 (ya0_2), .int .i64 (ya0_3)] 37)).cell (j := 0) (v := .slice p2_0 q2_0 r2_0) rfl
  have kw0_1 := (Bxw0.out.alloc (.cells #[.slice p3_0 q3_0 r3_0, .slice p3_1 q3_1 r3_1, .slice p3_2 q3_2 r3_2, .int .i64 (ya0_0), .int .i64 (ya0_1), .int .i64 (ya0_2), .int .i64 (ya0_3)] 37)).cell (j := 1) (v := .slice p2_1 q2_1 r2_1) rfl
  have kw0_2 := (Bxw0.out.alloc (.cells #[.slice p3_0 q3_0 r3_0, .slice p3_1 q3_1 r3_1, .slice p3_2 q3_2 r3_2, .int .i64 (ya0_0), .int .i64 (ya0_1), .int .i64 (ya0_2), .int .i64 (ya0_3)] 37)).cell (j := 2) (v := .slice p2_2 q2_2 r2_2) rfl
  have kw0_3 := (Bxw0.out.alloc (.cells #[.slice p3_0 q3_0 r3_0, .slice p3_1 q3_1 r3_1, .slice p3_2 q3_2 r3_2, .int .i64 (ya0_0), .int .i64 (ya0_1), .int .i64 (ya0_2), .int .i64 (ya0_3)] 37)).cell (j := 3) (v := .int .i64 ((dV (houseB xa0_0 xa0_1 xa0_2 ya0_0 ya0_1 ya0_2 ya0_3) ya0_0))) rfl
  have kw0_4 := (Bxw0.out.alloc (.cells #[.slice p3_0 q3_0 r3_0, .slice p3_1 q3_1 r3_1, .slice p3_2 q3_2 r3_2, .int .i64 (ya0_0), .int .i64 (ya0_1), .int .i64 (ya0_2), .int .i64 (ya0_3)] 37)).cell (j := 4) (v := .int .i64 ((dV (houseB xa0_0 xa0_1 xa0_2 ya0_0 ya0_1 ya0_2 ya0_3) ya0_1))) rfl
  have kw0_5 := (Bxw0.out.alloc (.cells #[.slice p3_0 q3_0 r3_0, .slice p3_1 q3_1 r3_1, .slice p3_2 q3_2 r3_2, .int .i64 (ya0_0), .int .i64 (ya0_1), .int .i64 (ya0_2), .int .i64 (ya0_3)] 37)).cell (j := 5) (v := .int .i64 ((dV (houseB xa0_0 xa0_1 xa0_2 ya0_0 ya0_1 ya0_2 ya0_3) ya0_2))) rfl
  have kw0_6 := (Bxw0.out.alloc (.cells #[.slice p3_0 q3_0 r3_0, .slice p3_1 q3_1 r3_1, .slice p3_2 q3_2 r3_2, .int .i64 (ya0_0), .int .i64 (ya0_1), .int .i64 (ya0_2), .int .i64 (ya0_3)] 37)).cell (j := 6) (v := .int .i64 ((dV (houseB xa0_0 xa0_1 xa0_2 ya0_0 ya0_1 ya0_2 ya0_3) ya0_3))) rfl
  have kw0_7 := (Bxw0.out.alloc (.cells #[.slice p3_0 q3_0 r3_0, .slice p3_1 q3_1 r3_1, .slice p3_2 q3_2 r3_2, .int .i64 (ya0_0), .int .i64 (ya0_1), .int .i64 (ya0_2), .int .i64 (ya0_3)] 37)).cell (j := 7) (v := .string ⟨#[]⟩) rfl
  have kw0_8 := (Bxw0.out.alloc (.cells #[.slice p3_0 q3_0 r3_0, .slice p3_1 q3_1 r3_1, .slice p3_2 q3_2 r3_2, .int .i64 (ya0_0), .int .i64 (ya0_1), .int .i64 (ya0_2), .int .i64 (ya0_3)] 37)).cell (j := 8) (v := .string ⟨#[]⟩) rfl
  have kw0_9 := (Bxw0.out.alloc (.cells #[.slice p3_0 q3_0 r3_0, .slice p3_1 q3_1 r3_1, .slice p3_2 q3_2 r3_2, .int .i64 (ya0_0), .int .i64 (ya0_1), .int .i64 (ya0_2), .int .i64 (ya0_3)] 37)).cell (j := 9) (v := .int .i64 (0)) rfl
  have hFx := hF.alloc (.cells #[.slice p3_0 q3_0 r3_0, .slice p3_1 q3_1 r3_1, .slice p3_2 q3_2 r3_2, .int .i64 (ya0_0), .int .i64 (ya0_1), .int .i64 (ya0_2), .int .i64 (ya0_3)] 37)
  go_wp2_with fail
  clear kaH_0 kaH_1 kaH_2 kaH_3 kaH_4 kaH_5 kaH_6 kw0_0 kw0_1 kw0_2 kw0_3 kw0_4 kw0_5 kw0_6 kw0_7 kw0_8 kw0_9
  refine (impl_NewConsole_any _ _ _ _ _ _ _ _ _ _ _ _ _ _ _ _ _ (o3_0.fr ((Fr.refl _).alloc _)).sl (o3_1.fr ((Fr.refl _).alloc _)).sl (o3_2.fr ((Fr.refl _).alloc _)).sl).mono ?_
  rintro e w4 ⟨p4_0, q4_0, r4_0, p4_1, q4_1, r4_1, p4_2, q4_2, r4_2, M4_0, M4_1, rfl, o4_0, o4_1, o4_2, l4_0, l4_1, y4_0, y4_1, y4_2, f4, e4_0, e4_1, e4_2⟩
  have Bxx0 := Lib.hid ((Blk.new w3 #[.slice p3_0 q3_0 r3_0, .slice p3_1 q3_1 r3_1, .slice p3_2 q3_2 r3_2, .int .i64 (ya0_0), .int .i64 (ya0_1), .int .i64 (ya0_2), .int .i64 (ya0_3)] 37).fr f4)
  have fx4 := ((Fr.refl _).alloc (.cells #[.slice p3_0 q3_0 r3_0, .slice p3_1 q3_1 r3_1, .slice p3_2 q3_2 r3_2, .int .i64 (ya0_0), .int .i64 (ya0_1), .int .i64 (ya0_2), .int .i64 (ya0_3)] 37)).trans f4
  have nx0 := Bxx0.out.lt
  have ha4 : w3.heap.size + 1 ≤ (w3.alloc (.cells #[.slice p3_0 q3_0 r3_0, .slice p3_1 q3_1 r3_1, .slice p3_2 q3_2 r3_2, .int .i64 (ya0_0), .int .i64 (ya0_1), .int .i64 (ya0_2), .int .i64 (ya0_3)] 37)).heap.size ∧ (w3.alloc (.cells #[.slice p3_0 q3_0 r3_0, .slice p3_1 q3_1 r3_1, .slice p3_2 q3_2 r3_2, .int .i64 (ya0_0), .int .i64 (ya0_1), .int .i64 (ya0_2), .int .i64 (ya0_3)] 37)).heap.size ≤ w3.heap.size + 1 := by simp
  have za4 := f4.size
  clear f4; have f4 := fx4; clear fx4
  replace BxaH := Lib.hid (BxaH.out.fr f4)
  replace Bxw0 := Lib.hid (Bxw0.out.fr f4)
  replace o1_0 := o1_0.fr f4
  replace o1_1 := o1_1.fr f4
  replace o1_2 := o1_2.fr f4
  replace o2_0 := o2_0.fr f4
  replace o2_1 := o2_1.fr f4
  replace o2_2 := o2_2.fr f4
  replace o3_0 := o3_0.fr f4
  replace o3_1 := o3_1.fr f4
  replace o3_2 := o3_2.fr f4
  have g4 := hF.size
  have z4 := f4.size
  replace hF := hF.trans f4
  clear f4
  have kaH_0 := BxaH.out.cell (j := 0) (v := .slice pa0_0 qa0_0 ra0_0) rfl
  have kaH_1 := BxaH.out.cell (j := 1) (v := .slice pa0_1 qa0_1 ra0_1) rfl
  have kaH_2 := BxaH.out.cell (j := 2) (v := .slice pa0_2 qa0_2 ra0_2) rfl
  have kaH_3 := BxaH.out.cell (j := 3) (v := .int .i64 ya0_0) rfl
  have kaH_4 := BxaH.out.cell (j := 4) (v := .int .i64 ya0_1) rfl
  have kaH_5 := BxaH.out.cell (j := 5) (v := .int .i64 ya0_2) rfl
  have kaH_6 := BxaH.out.cell (j := 6) (v := .int .i64 ya0_3) rfl
  have kw0_0 := Bxw0.out.cell (j := 0) (v := .slice p2_0 q2_0 r2_0) rfl
  have kw0_1 := Bxw0.out.cell (j := 1) (v := .slice p2_1 q2_1 r2_1) rfl
  have kw0_2 := Bxw0.out.cell (j := 2) (v := .slice p2_2 q2_2 r2_2) rfl
  have kw0_3 := Bxw0.out.cell (j := 3) (v := .int .i64 ((dV (houseB xa0_0 xa0_1 xa0_2 ya0_0 ya0_1 ya0_2 ya0_3) ya0_0))) rfl
  have kw0_4 := Bxw0.out.cell (j := 4) (v := .int .i64 ((dV (houseB xa0_0 xa0_1 xa0_2 ya0_0 ya0_1 ya0_2 ya0_3) ya0_1))) rfl
  have kw0_5 := Bxw0.out.cell (j := 5) (v := .int .i64 ((dV (houseB xa0_0 xa0_1 xa0_2 ya0_0 ya0_1 ya0_2 ya0_3) ya0_2))) rfl
  have kw0_6 := Bxw0.out.cell (j := 6) (v := .int .i64 ((dV (houseB xa0_0 xa0_1 xa0_2 ya0_0 ya0_1 ya0_2 ya0_3) ya0_3))) rfl
  have kw0_7 := Bxw0.out.cell (j := 7) (v := .string ⟨#[]⟩) rfl
  have kw0_8 := Bxw0.out.cell (j := 8) (v := .string ⟨#[]⟩) rfl
  have kw0_9 := Bxw0.out.cell (j := 9) (v := .int .i64 (0)) rfl
  have kx0_0 := Bxx0.out.cell (j := 0) (v := .slice p3_0 q3_0 r3_0) rfl
  have kx0_1 := Bxx0.out.cell (j := 1) (v := .slice p3_1 q3_1 r3_1) rfl
  have kx0_2 := Bxx0.out.cell (j := 2) (v := .slice p3_2 q3_2 r3_2) rfl
  have kx0_3 := Bxx0.out.cell (j := 3) (v := .int .i64 (ya0_0)) rfl
  have kx0_4 := Bxx0.out.cell (j := 4) (v := .int .i64 (ya0_1)) rfl
  have kx0_5 := Bxx0.out.cell (j := 5) (v := .int .i64 (ya0_2)) rfl
  have kx0_6 := Bxx0.out.cell (j := 6) (v := .int .i64 (ya0_3)) rfl
  clear hFx
  have l4_2 := o4_2.within
  clear kaH_0 kaH_1 kaH_2 kaH_3 kaH_4 kaH_5 kaH_6 kw0_0 kw0_1 kw0_2 kw0_3 kw0_4 kw0_5 kw0_6 kw0_7 kw0_8 kw0_9 kx0_0 kx0_1 kx0_2 kx0_3 kx0_4 kx0_5 kx0_6
  have kaH_0 := (BxaH.out.alloc (.cells #[.slice p4_0 q4_0 r4_0, .slice p4_1 q4_1 r4_1, .slice p4_2 q4_2 r4_2, .int .i64 ((dV (houseB xa0_0 xa0_1 xa0_2 ya0_0 ya0_1 ya0_2 ya0_3) ya0_0)), .int .i64 ((dV (houseB xa0_0 xa0_1 xa0_2 ya0_0 ya0_1 ya0_2 ya0_3) ya0_1)), .int .i64 ((dV (houseB xa0_0 xa0_1 xa0_2 ya0_0 ya0_1 ya0_2 ya0_3) ya0_2)), .int .i64 ((dV (houseB xa0_0 xa0_1 xa0_2 ya0_0 ya0_1 ya0_2 ya0_3) ya0_3)), .string ⟨#[]⟩, .string ⟨#[]⟩, .int .i64 (0)] 41)).cell (j := 0) (v := .slice pa0_0 qa0_0 ra0_0) rfl
  have kaH_1 := (BxaH.out.alloc (.cells #[.slice p4_0 q4_0 r4_0, .slice p4_1 q4_1 r4_1, .slice p4_2 q4_2 r4_2, .int .i64 ((dV (houseB xa0_0 xa0_1 xa0_2 ya0_0 ya0_1 ya0_2 ya0_3) ya0_0)), .int .i64 ((dV (houseB xa0_0 xa0_1 xa0_2 ya0_0 ya0_1 ya0_2 ya0_3) ya0_1)), .int .i64 ((dV (houseB xa0_0 xa0_1 xa0_2 ya0_0 ya0_1 ya0_2 ya0_3) ya0_2)), .int .i64 ((dV (houseB xa0_0 xa0_1 xa0_2 ya0_0 ya0_1 ya0_2 ya0_3) ya0_3)), .string ⟨#[]⟩, .string ⟨#[]⟩, .int .i64 (0)] 41)).cell (j := 1) (v := .slice pa0_1 qa0_1 ra0_1) rfl
  have kaH_2 := (BxaH.out.alloc (.cells #[.slice p4_0 q4_0 r4_0, .slice p4_1 q4_1 r4_1, .slice p4_2 q4_2 r4_2, .int .i64 ((dV (houseB xa0_0 xa0_1 xa0_2 ya0_0 ya0_1 ya0_2 ya0_3) ya0_0)), .int .i64 ((dV (houseB xa0_0 xa0_1 xa0_2 ya0_0 ya0_1 ya0_2 ya0_3) ya0_1)), .int .i64 ((dV (houseB xa0_0 xa0_1 xa0_2 ya0_0 ya0_1 ya0_2 ya0_3) ya0_2)), .int .i64 ((dV (houseB xa0_0 xa0_1 xa0_2 ya0_0 ya0_1 ya0_2 ya0_3) ya0_3)), .string ⟨#[]⟩, .string ⟨#[]⟩, .int .i64 (0)] 41)).cell (j := 2) (v := .slice pa0_2 qa0_2 ra0_2) rfl
  have kaH_3 := (BxaH.out.alloc (.cells #[.slice p4_0 q4_0 r4_0, .slice p4_1 q4_1 r4_1, .slice p4_2 q4_2 r4_2, .int .i64 ((dV (houseB xa0_0 xa0_1 xa0_2 ya0_0 ya0_1 ya0_2 ya0_3) ya0_0)), .int .i64 ((dV (houseB xa0_0 xa0_1 xa0_2 ya0_0 ya0_1 ya0_2 ya0_3) ya0_1)), .int .i64 ((dV (houseB xa0_0 xa0_1 xa0_2 ya0_0 ya0_1 ya0_2 ya0_3) ya0_2)), .int .i64 ((dV (houseB xa0_0 xa0_1 xa0_2 ya0_0 ya0_1 ya0_2 ya0_3) ya0_3)), .string ⟨#[]⟩, .string ⟨#[]⟩, .int .i64 (0)] 41)).cell (j := 3) (v := .int .i64 ya0_0) rfl
  have kaH_4 := (BxaH.out.alloc (.cells #[.slice p4_0 q4_0 r4_0, .slice p4_1 q4_1 r4_1, .slice p4_2 q4_2 r4_2, .int .i64 ((dV (houseB xa0_0 xa0_1 xa0_2 ya0_0 ya0_1 ya0_2 ya0_3) ya0_0)), .int .i64 ((dV (houseB xa0_0 xa0_1 xa0_2 ya0_0 ya0_1 ya0_2 ya0_3) ya0_1)), .int .i64 ((dV (houseB xa0_0 xa0_1 xa0_2 ya0_0 ya0_1 ya0_2 ya0_3) ya0_2)), .int .i64 ((dV (houseB xa0_0 xa0_1 xa0_2 ya0_0 ya0_1 ya0_2 ya0_3) ya0_3)), .string ⟨#[]⟩, .string ⟨#[]⟩, .int .i64 (0)] 41)).cell (j := 4) (v := .int .i64 ya0_1) rfl
  have kaH_5 := (BxaH.out.alloc (.cells #[.slice p4_0 q4_0 r4_0, .slice p4_1 q4_1 r4_1, .slice p4_2 q4_2 r4_2, .int .i64 ((dV (houseB xa0_0 xa0_1 xa0_2 ya0_0 ya0_1 ya0_2 ya0_3) ya0_0)), .int .i64 ((dV (houseB xa0_0 xa0_1 xa0_2 ya0_0 ya0_1 ya0_2 ya0_3) ya0_1)), .int .i64 ((dV (houseB xa0_0 xa0_1 xa0_2 ya0_0 ya0_1 ya0_2 ya0_3) ya0_2)), .int .i64 ((dV (houseB xa0_0 xa0_1 xa0_2 ya0_0 ya0_1 ya0_2 ya0_3) ya0_3)), .string ⟨#[]⟩, .string ⟨#[]⟩, .int .i64 (0)] 41)).cell (j := 5) (v := .int .i64 ya0_2) rfl
  have kaH_6 := (BxaH.out.alloc (.cells #[.slice p4_0 q4_0 r4_0, .slice p4_1 q4_1 r4_1, .slice p4_2 q4_2 r4_2, .int .i64 ((dV (houseB xa0_0 xa0_1 xa0_2 ya0_0 ya0_1 ya0_2 ya0_3) ya0_0)), .int .i64 ((dV (houseB xa0_0 xa0_1 xa0_2 ya0_0 ya0_1 ya0_2 ya0_3) ya0_1)), .int .i64 ((dV (houseB xa0_0 xa0_1 xa0_2 ya0_0 ya0_1 ya0_2 ya0_3) ya0_2)), .int .i64 ((dV (houseB xa0_0 xa0_1 xa0_2 ya0_0 ya0_1 ya0_2 ya0_3) ya0_3)), .string ⟨#[]⟩, .string ⟨#[]⟩, .int .i64 (0)] 41)).cell (j := 6) (v := .int .i64 ya0_3) rfl
  have kw0_0 := (Bxw0.out.alloc (.cells #[.slice p4_0 q4_0 r4_0, .slice p4_1 q4_1 r4_1, .slice p4_2 q4_2 r4_2, .int .i64 ((dV (houseB xa0_0 xa0_1 xa0_2 ya0_0 ya0_1 ya0_2 ya0_3) ya0_0)), .int .i64 ((dV (houseB xa0_0 xa0_1 xa0_2 ya0_0 ya0_1 ya0_2 ya0_3) ya0_1)), .int .i64 ((dV (houseB xa0_0 xa0_1 xa0_2 ya0_0 ya0_1 ya0_2 ya0_3) ya0_2)), .int .i64 ((dV (houseB xa0_0 xa0_1 xa0_2 ya0_0 ya0_1 ya0_2 ya0_3) ya0_3)), .string ⟨#[]⟩, .string ⟨#[]⟩, .int .i64 (0)] 41)).cell (j := 0) (v := .slice p2_0 q2_0 r2_0) rfl
  have kw0_1 := (Bxw0.out.alloc (.cells #[.slice p4_0 q4_0 r4_0, .slice p4_1 q4_1 r4_1, .slice p4_2 q4_2 r4_2, .int .i64 ((dV (houseB xa0_0 xa0_1 xa0_2 ya0_0 ya0_1 ya0_2 ya0_3) ya0_0)), .int .i64 ((dV (houseB xa0_0 xa0_1 xa0_2 ya0_0 ya0_1 ya0_2 ya0_3) ya0_1)), .int .i64 ((dV (houseB xa0_0 xa0_1 xa0_2 ya0_0 ya0_1 ya0_2 ya0_3) ya0_2)), .int .i64 ((dV (houseB xa0_0 xa0_1 xa0_2 ya0_0 ya0_1 ya0_2 ya0_3) ya0_3)), .string ⟨#[]⟩, .string ⟨#[]⟩, .int .i64 (0)] 41)).cell (j := 1) (v := .slice p2_1 q2_1 r2_1) rfl
  have kw0_2 := (Bxw0.out.alloc (.cells #[.slice p4_0 q4_0 r4_0, .slice p4_1 q4_1 r4_1, .slice p4_2 q4_2 r4_2, .int .i64 ((dV (houseB xa0_0 xa0_1 xa0_2 ya0_0 ya0_1 ya0_2 ya0_3) ya0_0)), .int .i64 ((dV (houseB xa0_0 xa0_1 xa0_2 ya0_0 ya0_1 ya0_2 ya0_3) ya0_1)), .int .i64 ((dV (houseB xa0_0 xa0_1 xa0_2 ya0_0 ya0_1 ya0_2 ya0_3) ya0_2)), .int .i64 ((dV (houseB xa0_0 xa0_1 xa0_2 ya0_0 ya0_1 ya0_2 ya0_3) ya0_3)), .string ⟨#[]⟩, .string ⟨#[]⟩, .int .i64 (0)] 41)).cell (j := 2) (v := .slice p2_2 q2_2 r2_2) rfl
  have kw0_3 := (Bxw0.out.alloc (.cells #[.slice p4_0 q4_0 r4_0, .slice p4_1 q4_1 r4_1, .slice p4_2 q4_2 r4_2, .int .i64 ((dV (houseB xa0_0 xa0_1 xa0_2 ya0_0 ya0_1 ya0_2 ya0_3) ya0_0)), .int .i64 ((dV (houseB xa0_0 xa0_1 xa0_2 ya0_0 ya0_1 ya0_2 ya0_3) ya0_1)), .int .i64 ((dV (houseB xa0_0 xa0_1 xa0_2 ya0_0 ya0_1 ya0_2 ya0_3) ya0_2)), .int .i64 ((dV (houseB xa0_0 xa0_1 xa0_2 ya0_0 ya0_1 ya0_2 ya0_3) ya0_3)), .string ⟨#[]⟩, .string ⟨#[]⟩, .int .i64 (0)] 41)).cell (j := 3) (v := .int .i64 ((dV (houseB xa0_0 xa0_1 xa0_2 ya0_0 ya0_1 ya0_2 ya0_3) ya0_0))) rfl
  have kw0_4 := (Bxw0.out.alloc (.cells #[.slice p4_0 q4_0 r4_0, .slice p4_1 q4_1 r4_1, .slice p4_2 q4_2 r4_2, .int .i64 ((dV (houseB xa0_0 xa0_1 xa0_2 ya0_0 ya0_1 ya0_2 ya0_3) ya0_0)), .int .i64 ((dV (houseB xa0_0 xa0_1 xa0_2 ya0_0 ya0_1 ya0_2 ya0_3) ya0_1)), .int .i64 ((dV (houseB xa0_0 xa0_1 xa0_2 ya0_0 ya0_1 ya0_2 ya0_3) ya0_2)), .int .i64 ((dV (houseB xa0_0 xa0_1 xa0_2 ya0_0 ya0_1 ya0_2 ya0_3) ya0_3)), .string ⟨#[]⟩, .string ⟨#[]⟩, .int .i64 (0)] 41)).cell (j := 4) (v := .int .i64 ((dV (houseB xa0_0 xa0_1 xa0_2 ya0_0 ya0_1 ya0_2 ya0_3) ya0_1))) rfl
  have kw0_5 := (Bxw0.out.alloc (.cells #[.slice p4_0 q4_0 r4_0, .slice p4_1 q4_1 r4_1, .slice p4_2 q4_2 r4_2, .int .i64 ((dV (houseB xa0_0 xa0_1 xa0_2 ya0_0 ya0_1 ya0_2 ya0_3) ya0_0)), .int .i64 ((dV (houseB xa0_0 xa0_1 xa0_2 ya0_0 ya0_1 ya0_2 ya0_3) ya0_1)), .int .i64 ((dV (houseB xa0_0 xa0_1 xa0_2 ya0_0 ya0_1 ya0_2 ya0_3) ya0_2)), .int .i64 ((dV (houseB xa0_0 xa0_1 xa0_2 ya0_0 ya0_1 ya0_2 ya0_3) ya0_3)), .string ⟨#[]⟩, .string ⟨#[]⟩, .int .i64 (0)] 41)).cell (j := 5) (v := .int .i64 ((dV (houseB xa0_0 xa0_1 xa0_2 ya0_0 ya0_1 ya0_2 ya0_3) ya0_2))) rfl
  have kw0_6 := (Bxw0.out.alloc (.cells #[.slice p4_0 q4_0 r4_0, .slice p4_1 q4_1 r4_1, .slice p4_2 q4_2 r4_2, .int .i64 ((dV (houseB xa0_0 xa0_1 xa0_2 ya0_0 ya0_1 ya0_2 ya0_3) ya0_0)), .int .i64 ((dV (houseB xa0_0 xa0_1 xa0_2 ya0_0 ya0_1 ya0_2 ya0_3) ya0_1)), .int .i64 ((dV (houseB xa0_0 xa0_1 xa0_2 ya0_0 ya0_1 ya0_2 ya0_3) ya0_2)), .int .i64 ((dV (houseB xa0_0 xa0_1 xa0_2 ya0_0 ya0_1 ya0_2 ya0_3) ya0_3)), .string ⟨#[]⟩, .string ⟨#[]⟩, .int .i64 (0)] 41)).cell (j := 6) (v := .int .i64 ((dV (houseB xa0_0 xa0_1 xa0_2 ya0_0 ya0_1 ya0_2 ya0_3) ya0_3))) rfl
  have kw0_7 := (Bxw0.out.alloc (.cells #[.slice p4_0 q4_0 r4_0, .slice p4_1 q4_1 r4_1, .slice p4_2 q4_2 r4_2, .int .i64 ((dV (houseB xa0_0 xa0_1 xa0_2 ya0_0 ya0_1 ya0_2 ya0_3) ya0_0)), .int .i64 ((dV (houseB xa0_0 xa0_1 xa0_2 ya0_0 ya0_1 ya0_2 ya0_3) ya0_1)), .int .i64 ((dV (houseB xa0_0 xa0_1 xa0_2 ya0_0 ya0_1 ya0_2 ya0_3) ya0_2)), .int .i64 ((dV (houseB xa0_0 xa0_1 xa0_2 ya0_0 ya0_1 ya0_2 ya0_3) ya0_3)), .string ⟨#[]⟩, .string ⟨#[]⟩, .int .i64 (0)] 41)).cell (j := 7) (v := .string ⟨#[]⟩) rfl
  have kw0_8 := (Bxw0.out.alloc (.cells #[.slice p4_0 q4_0 r4_0, .slice p4_1 q4_1 r4_1, .slice p4_2 q4_2 r4_2, .int .i64 ((dV (houseB xa0_0 xa0_1 xa0_2 ya0_0 ya0_1 ya0_2 ya0_3) ya0_0)), .int .i64 ((dV (houseB xa0_0 xa0_1 xa0_2 ya0_0 ya0_1 ya0_2 ya0_3) ya0_1)), .int .i64 ((dV (houseB xa0_0 xa0_1 xa0_2 ya0_0 ya0_1 ya0_2 ya0_3) ya0_2)), .int .i64 ((dV (houseB xa0_0 xa0_1 xa0_2 ya0_0 ya0_1 ya0_2 ya0_3) ya0_3)), .string ⟨#[]⟩, .string ⟨#[]⟩, .int .i64 (0)] 41)).cell (j := 8) (v := .string ⟨#[]⟩) rfl
  have kw0_9 := (Bxw0.out.alloc (.cells #[.slice p4_0 q4_0 r4_0, .slice p4_1 q4_1 r4_1, .slice p4_2 q4_2 r4_2, .int .i64 ((dV (houseB xa0_0 xa0_1 xa0_2 ya0_0 ya0_1 ya0_2 ya0_3) ya0_0)), .int .i64 ((dV (houseB xa0_0 xa0_1 xa0_2 ya0_0 ya0_1 ya0_2 ya0_3) ya0_1)), .int .i64 ((dV (houseB xa0_0 xa0_1 xa0_2 ya0_0 ya0_1 ya0_2 ya0_3) ya0_2)), .int .i64 ((dV (houseB xa0_0 xa0_1 xa0_2 ya0_0 ya0_1 ya0_2 ya0_3) ya0_3)), .string ⟨#[]⟩, .string ⟨#[]⟩, .int .i64 (0)] 41)).cell (j := 9) (v := .int .i64 (0)) rfl
  have kx0_0 := (Bxx0.out.alloc (.cells #[.slice p4_0 q4_0 r4_0, .slice p4_1 q4_1 r4_1, .slice p4_2 q4_2 r4_2, .int .i64 ((dV (houseB xa0_0 xa0_1 xa0_2 ya0_0 ya0_1 ya0_2 ya0_3) ya0_0)), .int .i64 ((dV (houseB xa0_0 xa0_1 xa0_2 ya0_0 ya0_1 ya0_2 ya0_3) ya0_1)), .int .i64 ((dV (houseB xa0_0 xa0_1 xa0_2 ya0_0 ya0_1 ya0_2 ya0_3) ya0_2)), .int .i64 ((dV (houseB xa0_0 xa0_1 xa0_2 ya0_0 ya0_1 ya0_2 ya0_3) ya0_3)), .string ⟨#[]⟩, .string ⟨#[]⟩, .int .i64 (0)] 41)).cell (j := 0) (v := .slice p3_0 q3_0 r3_0) rfl
  have kx0_1 := (Bxx0.out.alloc (.cells #[.slice p4_0 q4_0 r4_0, .slice p4_1 q4_1 r4_1, .slice p4_2 q4_2 r4_2, .int .i64 ((dV (houseB xa0_0 xa0_1 xa0_2 ya0_0 ya0_1 ya0_2 ya0_3) ya0_0)), .int .i64 ((dV (houseB xa0_0 xa0_1 xa0_2 ya0_0 ya0_1 ya0_2 ya0_3) ya0_1)), .int .i64 ((dV (houseB xa0_0 xa0_1 xa0_2 ya0_0 ya0_1 ya0_2 ya0_3) ya0_2)), .int .i64 ((dV (houseB xa0_0 xa0_1 xa0_2 ya0_0 ya0_1 ya0_2 ya0_3) ya0_3)), .string ⟨#[]⟩, .string ⟨#[]⟩, .int .i64 (0)] 41)).cell (j := 1) (v := .slice p3_1 q3_1 r3_1) rfl
  have kx0_2 := (Bxx0.out.alloc (.cells #[.slice p4_0 q4_0 r4_0, .slice p4_1 q4_1 r4_1, .slice p4_2 q4_2 r4_2, .int .i64 ((dV (houseB xa0_0 xa0_1 xa0_2 ya0_0 ya0_1 ya0_2 ya0_3) ya0_0)), .int .i64 ((dV (houseB xa0_0 xa0_1 xa0_2 ya0_0 ya0_1 ya0_2 ya0_3) ya0_1)), .int .i64 ((dV (houseB xa0_0 xa0_1 xa0_2 ya0_0 ya0_1 ya0_2 ya0_3) ya0_2)), .int .i64 ((dV (houseB xa0_0 xa0_1 xa0_2 ya0_0 ya0_1 ya0_2 ya0_3) ya0_3)), .string ⟨#[]⟩, .string ⟨#[]⟩, .int .i64 (0)] 41)).cell (j := 2) (v := .slice p3_2 q3_2 r3_2) rfl
  have kx0_3 := (Bxx0.out.alloc (.cells #[.slice p4_0 q4_0 r4_0, .slice p4_1 q4_1 r4_1, .slice p4_2 q4_2 r4_2, .int .i64 ((dV (houseB xa0_0 xa0_1 xa0_2 ya0_0 ya0_1 ya0_2 ya0_3) ya0_0)), .int .i64 ((dV (houseB xa0_0 xa0_1 xa0_2 ya0_0 ya0_1 ya0_2 ya0_3) ya0_1)), .int .i64 ((dV (houseB xa0_0 xa0_1 xa0_2 ya0_0 ya0_1 ya0_2 ya0_3) ya0_2)), .int .i64 ((dV (houseB xa0_0 xa0_1 xa0_2 ya0_0 ya0_1 ya0_2 ya0_3) ya0_3)), .string ⟨#[]⟩, .string ⟨#[]⟩, .int .i64 (0)] 41)).cell (j := 3) (v := .int .i64 (ya0_0)) rfl
  have kx0_4 := (Bxx0.out.alloc (.cells #[.slice p4_0 q4_0 r4_0, .slice p4_1 q4_1 r4_1, .slice p4_2 q4_2 r4_2, .int .i64 ((dV (houseB xa0_0 xa0_1 xa0_2 ya0_0 ya0_1 ya0_2 ya0_3) ya0_0)), .int .i64 ((dV (houseB xa0_0 xa0_1 xa0_2 ya0_0 ya0_1 ya0_2 ya0_3) ya0_1)), .int .i64 ((dV (houseB xa0_0 xa0_1 xa0_2 ya0_0 ya0_1 ya0_2 ya0_3) ya0_2)), .int .i64 ((dV (houseB xa0_0 xa0_1 xa0_2 ya0_0 ya0_1 ya0_2 ya0_3) ya0_3)), .string ⟨#[]⟩, .string ⟨#[]⟩, .int .i64 (0)] 41)).cell (j := 4) (v := .int .i64 (ya0_1)) rfl
  have kx0_5 := (Bxx0.out.alloc (.cells #[.slice p4_0 q4_0 r4_0, .slice p4_1 q4_1 r4_1, .slice p4_2 q4_2 r4_2, .int .i64 ((dV (houseB xa0_0 xa0_1 xa0_2 ya0_0 ya0_1 ya0_2 ya0_3) ya0_0)), .int .i64 ((dV (houseB xa0_0 xa0_1 xa0_2 ya0_0 ya0_1 ya0_2 ya0_3) ya0_1)), .int .i64 ((dV (houseB xa0_0 xa0_1 xa0_2 ya0_0 ya0_1 ya0_2 ya0_3) ya0_2)), .int .i64 ((dV (houseB xa0_0 xa0_1 xa0_2 ya0_0 ya0_1 ya0_2 ya0_3) ya0_3)), .string ⟨#[]⟩, .string ⟨#[]⟩, .int .i64 (0)] 41)).cell (j := 5) (v := .int .i64 (ya0_2)) rfl
  have kx0_6 := (Bxx0.out.alloc (.cells #[.slice p4_0 q4_0 r4_0, .slice p4_1 q4_1 r4_1, .slice p4_2 q4_2 r4_2, .int .i64 ((dV (houseB xa0_0 xa0_1 xa0_2 ya0_0 ya0_1 ya0_2 ya0_3) ya0_0)), .int .i64 ((dV (houseB xa0_0 xa0_1 xa0_2 ya0_0 ya0_1 ya0_2 ya0_3) ya0_1)), .int .i64 ((dV (houseB xa0_0 xa0_1 xa0_2 ya0_0 ya0_1 ya0_2 ya0_3) ya0_2)), .int .i64 ((dV (houseB xa0_0 xa0_1 xa0_2 ya0_0 ya0_1 ya0_2 ya0_3) ya0_3)), .string ⟨#[]⟩, .string ⟨#[]⟩, .int .i64 (0)] 41)).cell (j := 6) (v := .int .i64 (ya0_3)) rfl
  have hFx := hF.alloc (.cells #[.slice p4_0 q4_0 r4_0, .slice p4_1 q4_1 r4_1, .slice p4_2 q4_2 r4_2, .int .i64 ((dV (houseB xa0_0 xa0_1 xa0_2 ya0_0 ya0_1 ya0_2 ya0_3) ya0_0)), .int .i64 ((dV (houseB xa0_0 xa0_1 xa0_2 ya0_0 ya0_1 ya0_2 ya0_3) ya0_1)), .int .i64 ((dV (houseB xa0_0 xa0_1 xa0_2 ya0_0 ya0_1 ya0_2 ya0_3) ya0_2)), .int .i64 ((dV (houseB xa0_0 xa0_1 xa0_2 ya0_0 ya0_1 ya0_2 ya0_3) ya0_3)), .string ⟨#[]⟩, .string ⟨#[]⟩, .int .i64 (0)] 41)
  go_wp2_with fail
  clear kaH_0 kaH_1 kaH_2 kaH_3 kaH_4 kaH_5 kaH_6 kw0_0 kw0_1 kw0_2 kw0_3 kw0_4 kw0_5 kw0_6 kw0_7 kw0_8 kw0_9 kx0_0 kx0_1 kx0_2 kx0_3 kx0_4 kx0_5 kx0_6
  refine (eqConsole_same _ _ _ _ _ _ _ _ _ _ _ _ _ _ _ _ _ _ _ _ _ _ _ _ _ _ (o4_0.fr ((Fr.refl _).alloc _)).sl (o4_1.fr ((Fr.refl _).alloc _)).sl (o4_2.fr ((Fr.refl _).alloc _)).sl (o2_0.fr ((Fr.refl _).alloc _)).sl (o2_1.fr ((Fr.refl _).alloc _)).sl (o2_2.fr ((Fr.refl _).alloc _)).sl).mono ?_
  rintro e w5 ⟨rfl, f5⟩
  have Bxg0 := Lib.hid ((Blk.new w4 #[.slice p4_0 q4_0 r4_0, .slice p4_1 q4_1 r4_1, .slice p4_2 q4_2 r4_2, .int .i64 ((dV (houseB xa0_0 xa0_1 xa0_2 ya0_0 ya0_1 ya0_2 ya0_3) ya0_0)), .int .i64 ((dV (houseB xa0_0 xa0_1 xa0_2 ya0_0 ya0_1 ya0_2 ya0_3) ya0_1)), .int .i64 ((dV (houseB xa0_0 xa0_1 xa0_2 ya0_0 ya0_1 ya0_2 ya0_3) ya0_2)), .int .i64 ((dV (houseB xa0_0 xa0_1 xa0_2 ya0_0 ya0_1 ya0_2 ya0_3) ya0_3)), .string ⟨#[]⟩, .string ⟨#[]⟩, .int .i64 (0)] 41).fr f5)
  have fx5 := ((Fr.refl _).alloc (.cells #[.slice p4_0 q4_0 r4_0, .slice p4_1 q4_1 r4_1, .slice p4_2 q4_2 r4_2, .int .i64 ((dV (houseB xa0_0 xa0_1 xa0_2 ya0_0 ya0_1 ya0_2 ya0_3) ya0_0)), .int .i64 ((dV (houseB xa0_0 xa0_1 xa0_2 ya0_0 ya0_1 ya0_2 ya0_3) ya0_1)), .int .i64 ((dV (houseB xa0_0 xa0_1 xa0_2 ya0_0 ya0_1 ya0_2 ya0_3) ya0_2)), .int .i64 ((dV (houseB xa0_0 xa0_1 xa0_2 ya0_0 ya0_1 ya0_2 ya0_3) ya0_3)), .string ⟨#[]⟩, .string ⟨#[]⟩, .int .i64 (0)] 41)).trans f5
  have ng0 := Bxg0.out.lt
  have ha5 : w4.heap.size + 1 ≤ (w4.alloc (.cells #[.slice p4_0 q4_0 r4_0, .slice p4_1 q4_1 r4_1, .slice p4_2 q4_2 r4_2, .int .i64 ((dV (houseB xa0_0 xa0_1 xa0_2 ya0_0 ya0_1 ya0_2 ya0_3) ya0_0)), .int .i64 ((dV (houseB xa0_0 xa0_1 xa0_2 ya0_0 ya0_1 ya0_2 ya0_3) ya0_1)), .int .i64 ((dV (houseB xa0_0 xa0_1 xa0_2 ya0_0 ya0_1 ya0_2 ya0_3) ya0_2)), .int .i64 ((dV (houseB xa0_0 xa0_1 xa0_2 ya0_0 ya0_1 ya0_2 ya0_3) ya0_3)), .string ⟨#[]⟩, .string ⟨#[]⟩, .int .i64 (0)] 41)).heap.size ∧ (w4.alloc (.cells #[.slice p4_0 q4_0 r4_0, .slice p4_1 q4_1 r4_1, .slice p4_2 q4_2 r4_2, .int .i64 ((dV (houseB xa0_0 xa0_1 xa0_2 ya0_0 ya0_1 ya0_2 ya0_3) ya0_0)), .int .i64 ((dV (houseB xa0_0 xa0_1 xa0_2 ya0_0 ya0_1 ya0_2 ya0_3) ya0_1)), .int .i64 ((dV (houseB xa0_0 xa0_1 xa0_2 ya0_0 ya0_1 ya0_2 ya0_3) ya0_2)), .int .i64 ((dV (houseB xa0_0 xa0_1 xa0_2 ya0_0 ya0_1 ya0_2 ya0_3) ya0_3)), .string ⟨#[]⟩, .string ⟨#[]⟩, .int .i64 (0)] 41)).heap.size ≤ w4.heap.size + 1 := by simp
  have za5 := f5.size
  clear f5; have f5 := fx5; clear fx5
  replace BxaH := Lib.hid (BxaH.out.fr f5)
  replace Bxw0 := Lib.hid (Bxw0.out.fr f5)
  replace Bxx0 := Lib.hid (Bxx0.out.fr f5)
  replace o1_0 := o1_0.fr f5
  replace o1_1 := o1_1.fr f5
  replace o1_2 := o1_2.fr f5
  replace o2_0 := o2_0.fr f5
  replace o2_1 := o2_1.fr f5
  replace o2_2 := o2_2.fr f5
  replace o3_0 := o3_0.fr f5
  replace o3_1 := o3_1.fr f5
  replace o3_2 := o3_2.fr f5
  replace o4_0 := o4_0.fr f5
  replace o4_1 := o4_1.fr f5
  replace o4_2 := o4_2.fr f5
  have z5 := f5.size
  replace hF := hF.trans f5
  clear f5
  have kaH_0 := BxaH.out.cell (j := 0) (v := .slice pa0_0 qa0_0 ra0_0) rfl
  have kaH_1 := BxaH.out.cell (j := 1) (v := .slice pa0_1 qa0_1 ra0_1) rfl
  have kaH_2 := BxaH.out.cell (j := 2) (v := .slice pa0_2 qa0_2 ra0_2) rfl
  have kaH_3 := BxaH.out.cell (j := 3) (v := .int .i64 ya0_0) rfl
  have kaH_4 := BxaH.out.cell (j := 4) (v := .int .i64 ya0_1) rfl
  have kaH_5 := BxaH.out.cell (j := 5) (v := .int .i64 ya0_2) rfl
  have kaH_6 := BxaH.out.cell (j := 6) (v := .int .i64 ya0_3) rfl
  have kw0_0 := Bxw0.out.cell (j := 0) (v := .slice p2_0 q2_0 r2_0) rfl
  have kw0_1 := Bxw0.out.cell (j := 1) (v := .slice p2_1 q2_1 r2_1) rfl
  have kw0_2 := Bxw0.out.cell (j := 2) (v := .slice p2_2 q2_2 r2_2) rfl
  have kw0_3 := Bxw0.out.cell (j := 3) (v := .int .i64 ((dV (houseB xa0_0 xa0_1 xa0_2 ya0_0 ya0_1 ya0_2 ya0_3) ya0_0))) rfl
  have kw0_4 := Bxw0.out.cell (j := 4) (v := .int .i64 ((dV (houseB xa0_0 xa0_1 xa0_2 ya0_0 ya0_1 ya0_2 ya0_3) ya0_1))) rfl
  have kw0_5 := Bxw0.out.cell (j := 5) (v := .int .i64 ((dV (houseB xa0_0 xa0_1 xa0_2 ya0_0 ya0_1 ya0_2 ya0_3) ya0_2))) rfl
  have kw0_6 := Bxw0.out.cell (j := 6) (v := .int .i64 ((dV (houseB xa0_0 xa0_1 xa0_2 ya0_0 ya0_1 ya0_2 ya0_3) ya0_3))) rfl
  have kw0_7 := Bxw0.out.cell (j := 7) (v := .string ⟨#[]⟩) rfl
  have kw0_8 := Bxw0.out.cell (j := 8) (v := .string ⟨#[]⟩) rfl
  have kw0_9 := Bxw0.out.cell (j := 9) (v := .int .i64 (0)) rfl
  have kx0_0 := Bxx0.out.cell (j := 0) (v := .slice p3_0 q3_0 r3_0) rfl
  have kx0_1 := Bxx0.out.cell (j := 1) (v := .slice p3_1 q3_1 r3_1) rfl
  have kx0_2 := Bxx0.out.cell (j := 2) (v := .slice p3_2 q3_2 r3_2) rfl
  have kx0_3 := Bxx0.out.cell (j := 3) (v := .int .i64 (ya0_0)) rfl
  have kx0_4 := Bxx0.out.cell (j := 4) (v := .int .i64 (ya0_1)) rfl
  have kx0_5 := Bxx0.out.cell (j := 5) (v := .int .i64 (ya0_2)) rfl
  have kx0_6 := Bxx0.out.cell (j := 6) (v := .int .i64 (ya0_3)) rfl
  have kg0_0 := Bxg0.out.cell (j := 0) (v := .slice p4_0 q4_0 r4_0) rfl
  have kg0_1 := Bxg0.out.cell (j := 1) (v := .slice p4_1 q4_1 r4_1) rfl
  have kg0_2 := Bxg0.out.cell (j := 2) (v := .slice p4_2 q4_2 r4_2) rfl
  have kg0_3 := Bxg0.out.cell (j := 3) (v := .int .i64 ((dV (houseB xa0_0 xa0_1 xa0_2 ya0_0 ya0_1 ya0_2 ya0_3) ya0_0))) rfl
  have kg0_4 := Bxg0.out.cell (j := 4) (v := .int .i64 ((dV (houseB xa0_0 xa0_1 xa0_2 ya0_0 ya0_1 ya0_2 ya0_3) ya0_1))) rfl
  have kg0_5 := Bxg0.out.cell (j := 5) (v := .int .i64 ((dV (houseB xa0_0 xa0_1 xa0_2 ya0_0 ya0_1 ya0_2 ya0_3) ya0_2))) rfl
  have kg0_6 := Bxg0.out.cell (j := 6) (v := .int .i64 ((dV (houseB xa0_0 xa0_1 xa0_2 ya0_0 ya0_1 ya0_2 ya0_3) ya0_3))) rfl
  have kg0_7 := Bxg0.out.cell (j := 7) (v := .string ⟨#[]⟩) rfl
  have kg0_8 := Bxg0.out.cell (j := 8) (v := .string ⟨#[]⟩) rfl
  have kg0_9 := Bxg0.out.cell (j := 9) (v := .int .i64 (0)) rfl
  clear hFx
  go_wp2
  clear kaH_0 kaH_1 kaH_2 kaH_3 kaH_4 kaH_5 kaH_6 kw0_0 kw0_1 kw0_2 kw0_3 kw0_4 kw0_5 kw0_6 kw0_7 kw0_8 kw0_9 kx0_0 kx0_1 kx0_2 kx0_3 kx0_4 kx0_5 kx0_6 kg0_0 kg0_1 kg0_2 kg0_3 kg0_4 kg0_5 kg0_6 kg0_7 kg0_8 kg0_9
  have kx0_0 := Bxx0.out.cell (j := 0) (v := .slice p3_0 q3_0 r3_0) rfl
  have kx0_1 := Bxx0.out.cell (j := 1) (v := .slice p3_1 q3_1 r3_1) rfl
  have kx0_2 := Bxx0.out.cell (j := 2) (v := .slice p3_2 q3_2 r3_2) rfl
  have kx0_3 := Bxx0.out.cell (j := 3) (v := .int .i64 (ya0_0)) rfl
  have kx0_4 := Bxx0.out.cell (j := 4) (v := .int .i64 (ya0_1)) rfl
  have kx0_5 := Bxx0.out.cell (j := 5) (v := .int .i64 (ya0_2)) rfl
  have kx0_6 := Bxx0.out.cell (j := 6) (v := .int .i64 (ya0_3)) rfl
  have kaH_0 := BxaH.out.cell (j := 0) (v := .slice pa0_0 qa0_0 ra0_0) rfl
  have kaH_1 := BxaH.out.cell (j := 1) (v := .slice pa0_1 qa0_1 ra0_1) rfl
  have kaH_2 := BxaH.out.cell (j := 2) (v := .slice pa0_2 qa0_2 ra0_2) rfl
  have kaH_3 := BxaH.out.cell (j := 3) (v := .int .i64 ya0_0) rfl
  have kaH_4 := BxaH.out.cell (j := 4) (v := .int .i64 ya0_1) rfl
  have kaH_5 := BxaH.out.cell (j := 5) (v := .int .i64 ya0_2) rfl
  have kaH_6 := BxaH.out.cell (j := 6) (v := .int .i64 ya0_3) rfl
  have ta0_0 := (sa0_0.fr hF).drewN 1
  have ta0_1 := (sa0_1.fr hF).drewN 1
  have ta0_2 := (sa0_2.fr hF).drewN 1
  go_region_held3 (fun w' => w'.cell? ⟨w3.heap.size, 0, none⟩ = some (.slice p3_0 q3_0 r3_0) ∧ w'.cell? ⟨w3.heap.size, 1, none⟩ = some (.slice p3_1 q3_1 r3_1) ∧ w'.cell? ⟨w3.heap.size, 2, none⟩ = some (.slice p3_2 q3_2 r3_2) ∧ w'.cell? ⟨w3.heap.size, 3, none⟩ = some (.int .i64 (ya0_0)) ∧ w'.cell? ⟨w3.heap.size, 4, none⟩ = some (.int .i64 (ya0_1)) ∧ w'.cell? ⟨w3.heap.size, 5, none⟩ = some (.int .i64 (ya0_2)) ∧ w'.cell? ⟨w3.heap.size, 6, none⟩ = some (.int .i64 (ya0_3)) ∧ w'.cell? ⟨w.heap.size, 0, none⟩ = some (.slice pa0_0 qa0_0 ra0_0) ∧ w'.cell? ⟨w.heap.size, 1, none⟩ = some (.slice pa0_1 qa0_1 ra0_1) ∧ w'.cell? ⟨w.heap.size, 2, none⟩ = some (.slice pa0_2 qa0_2 ra0_2) ∧ w'.cell? ⟨w.heap.size, 3, none⟩ = some (.int .i64 ya0_0) ∧ w'.cell? ⟨w.heap.size, 4, none⟩ = some (.int .i64 ya0_1) ∧ w'.cell? ⟨w.heap.size, 5, none⟩ = some (.int .i64 ya0_2) ∧ w'.cell? ⟨w.heap.size, 6, none⟩ = some (.int .i64 ya0_3))
      (first
        | go_keep
        | (exact ⟨f7.keep (f6.keep kx0_0), f7.keep (f6.keep kx0_1), f7.keep (f6.keep kx0_2), f7.keep (f6.keep kx0_3), f7.keep (f6.keep kx0_4), f7.keep (f6.keep kx0_5), f7.keep (f6.keep kx0_6), f7.keep (f6.keep kaH_0), f7.keep (f6.keep kaH_1), f7.keep (f6.keep kaH_2), f7.keep (f6.keep kaH_3), f7.keep (f6.keep kaH_4), f7.keep (f6.keep kaH_5), f7.keep (f6.keep kaH_6)⟩)
        | (exact ⟨f6.keep kx0_0, f6.keep kx0_1, f6.keep kx0_2, f6.keep kx0_3, f6.keep kx0_4, f6.keep kx0_5, f6.keep kx0_6, f6.keep kaH_0, f6.keep kaH_1, f6.keep kaH_2, f6.keep kaH_3, f6.keep kaH_4, f6.keep kaH_5, f6.keep kaH_6⟩))
      (first
        | (go_at_call 11; refine (toHouse_any _ _ _ _ _ _ _ _ _ _ _ _ _ _ _ _ _ ta0_0 ta0_1 ta0_2 (by omega) (by omega) (by omega)).mono ?_; rintro e w6 ⟨p6_0, q6_0, r6_0, p6_1, q6_1, r6_1, p6_2, q6_2, r6_2, M6_0, M6_1, rfl, o6_0, o6_1, o6_2, l6_0, l6_1, y6_0, y6_1, y6_2, f6, e6_0, e6_1, e6_2⟩)
        | (go_at_call 14; refine (eqHouse_same _ _ _ _ _ _ _ _ _ _ _ _ _ _ _ _ _ _ _ _ _ _ _ _ _ _ ((o3_0.drewN 1).fr f6).sl ((o3_1.drewN 1).fr f6).sl ((o3_2.drewN 1).fr f6).sl o6_0.sl o6_1.sl o6_2.sl).mono ?_; rintro e w7 ⟨rfl, f7⟩))
  clear kx0_0 kx0_1 kx0_2 kx0_3 kx0_4 kx0_5 kx0_6 kaH_0 kaH_1 kaH_2 kaH_3 kaH_4 kaH_5 kaH_6 ta0_0 ta0_1 ta0_2
  have ff7 := ((Fr.drewN _ 1).trans f6).trans f7
  replace BxaH := Lib.hid (BxaH.out.fr ff7)
  replace Bxw0 := Lib.hid (Bxw0.out.fr ff7)
  replace Bxx0 := Lib.hid (Bxx0.out.fr ff7)
  replace Bxg0 := Lib.hid (Bxg0.out.fr ff7)
  replace o1_0 := o1_0.fr ff7
  replace o1_1 := o1_1.fr ff7
  replace o1_2 := o1_2.fr ff7
  replace o2_0 := o2_0.fr ff7
  replace o2_1 := o2_1.fr ff7
  replace o2_2 := o2_2.fr ff7
  replace o3_0 := o3_0.fr ff7
  replace o3_1 := o3_1.fr ff7
  replace o3_2 := o3_2.fr ff7
  replace o4_0 := o4_0.fr ff7
  replace o4_1 := o4_1.fr ff7
  replace o4_2 := o4_2.fr ff7
  have z7 := ff7.size
  replace hF := hF.trans ff7
  clear ff7 f6 f7 o6_0 o6_1 o6_2 l6_0 l6_1
  have kaH_0 := BxaH.out.cell (j := 0) (v := .slice pa0_0 qa0_0 ra0_0) rfl
  have kaH_1 := BxaH.out.cell (j := 1) (v := .slice pa0_1 qa0_1 ra0_1) rfl
  have kaH_2 := BxaH.out.cell (j := 2) (v := .slice pa0_2 qa0_2 ra0_2) rfl
  have kaH_3 := BxaH.out.cell (j := 3) (v := .int .i64 ya0_0) rfl
  have kaH_4 := BxaH.out.cell (j := 4) (v := .int .i64 ya0_1) rfl
  have kaH_5 := BxaH.out.cell (j := 5) (v := .int .i64 ya0_2) rfl
  have kaH_6 := BxaH.out.cell (j := 6) (v := .int .i64 ya0_3) rfl
  have kw0_0 := Bxw0.out.cell (j := 0) (v := .slice p2_0 q2_0 r2_0) rfl
  have kw0_1 := Bxw0.out.cell (j := 1) (v := .slice p2_1 q2_1 r2_1) rfl
  have kw0_2 := Bxw0.out.cell (j := 2) (v := .slice p2_2 q2_2 r2_2) rfl
  have kw0_3 := Bxw0.out.cell (j := 3) (v := .int .i64 ((dV (houseB xa0_0 xa0_1 xa0_2 ya0_0 ya0_1 ya0_2 ya0_3) ya0_0))) rfl
  have kw0_4 := Bxw0.out.cell (j := 4) (v := .int .i64 ((dV (houseB xa0_0 xa0_1 xa0_2 ya0_0 ya0_1 ya0_2 ya0_3) ya0_1))) rfl
  have kw0_5 := Bxw0.out.cell (j := 5) (v := .int .i64 ((dV (houseB xa0_0 xa0_1 xa0_2 ya0_0 ya0_1 ya0_2 ya0_3) ya0_2))) rfl
  have kw0_6 := Bxw0.out.cell (j := 6) (v := .int .i64 ((dV (houseB xa0_0 xa0_1 xa0_2 ya0_0 ya0_1 ya0_2 ya0_3) ya0_3))) rfl
  have kw0_7 := Bxw0.out.cell (j := 7) (v := .string ⟨#[]⟩) rfl
  have kw0_8 := Bxw0.out.cell (j := 8) (v := .string ⟨#[]⟩) rfl
  have kw0_9 := Bxw0.out.cell (j := 9) (v := .int .i64 (0)) rfl
  have kx0_0 := Bxx0.out.cell (j := 0) (v := .slice p3_0 q3_0 r3_0) rfl
  have kx0_1 := Bxx0.out.cell (j := 1) (v := .slice p3_1 q3_1 r3_1) rfl
  have kx0_2 := Bxx0.out.cell (j := 2) (v := .slice p3_2 q3_2 r3_2) rfl
  have kx0_3 := Bxx0.out.cell (j := 3) (v := .int .i64 (ya0_0)) rfl
  have kx0_4 := Bxx0.out.cell (j := 4) (v := .int .i64 (ya0_1)) rfl
  have kx0_5 := Bxx0.out.cell (j := 5) (v := .int .i64 (ya0_2)) rfl
  have kx0_6 := Bxx0.out.cell (j := 6) (v := .int .i64 (ya0_3)) rfl
  have kg0_0 := Bxg0.out.cell (j := 0) (v := .slice p4_0 q4_0 r4_0) rfl
  have kg0_1 := Bxg0.out.cell (j := 1) (v := .slice p4_1 q4_1 r4_1) rfl
  have kg0_2 := Bxg0.out.cell (j := 2) (v := .slice p4_2 q4_2 r4_2) rfl
  have kg0_3 := Bxg0.out.cell (j := 3) (v := .int .i64 ((dV (houseB xa0_0 xa0_1 xa0_2 ya0_0 ya0_1 ya0_2 ya0_3) ya0_0))) rfl
  have kg0_4 := Bxg0.out.cell (j := 4) (v := .int .i64 ((dV (houseB xa0_0 xa0_1 xa0_2 ya0_0 ya0_1 ya0_2 ya0_3) ya0_1))) rfl
  have kg0_5 := Bxg0.out.cell (j := 5) (v := .int .i64 ((dV (houseB xa0_0 xa0_1 xa0_2 ya0_0 ya0_1 ya0_2 ya0_3) ya0_2))) rfl
  have kg0_6 := Bxg0.out.cell (j := 6) (v := .int .i64 ((dV (houseB xa0_0 xa0_1 xa0_2 ya0_0 ya0_1 ya0_2 ya0_3) ya0_3))) rfl
  have kg0_7 := Bxg0.out.cell (j := 7) (v := .string ⟨#[]⟩) rfl
  have kg0_8 := Bxg0.out.cell (j := 8) (v := .string ⟨#[]⟩) rfl
  have kg0_9 := Bxg0.out.cell (j := 9) (v := .int .i64 (0)) rfl
  go_wp2_with fail
  clear kaH_0 kaH_1 kaH_2 kaH_3 kaH_4 kaH_5 kaH_6 kw0_0 kw0_1 kw0_2 kw0_3 kw0_4 kw0_5 kw0_6 kw0_7 kw0_8 kw0_9 kx0_0 kx0_1 kx0_2 kx0_3 kx0_4 kx0_5 kx0_6 kg0_0 kg0_1 kg0_2 kg0_3 kg0_4 kg0_5 kg0_6 kg0_7 kg0_8 kg0_9
  refine (markHouse_any _ _ _ _ _ _ _ _ _ _ _ _ _ _ _ _ _ _ _ _ _ 1 o3_0 o3_1 o3_2 l3_0 l3_1 l3_2 (by omega) (by omega) (by omega) (by omega) (by omega) (by omega) (by omega) (by omega) (by omega)).mono ?_
  rintro e w8 ⟨rfl, oo0, oo1, oo2, G8⟩
  replace BxaH := Lib.hid (BxaH.out.skipIn G8 (by omega))
  replace Bxw0 := Lib.hid (Bxw0.out.skipIn G8 (by omega))
  replace Bxx0 := Lib.hid (Bxx0.out.skipIn G8 (by omega))
  replace Bxg0 := Lib.hid (Bxg0.out.skipIn G8 (by omega))
  replace o1_0 := o1_0.skipSS G8 l1_0 (by omega)
  replace o1_1 := o1_1.skipSS G8 l1_1 (by omega)
  replace o1_2 := o1_2.skipSS G8 l1_2 (by omega)
  replace o2_0 := o2_0.skipSS G8 l2_0 (by omega)
  replace o2_1 := o2_1.skipSS G8 l2_1 (by omega)
  replace o2_2 := o2_2.skipSS G8 l2_2 (by omega)
  replace o4_0 := o4_0.skipSS G8 l4_0 (by omega)
  replace o4_1 := o4_1.skipSS G8 l4_1 (by omega)
  replace o4_2 := o4_2.skipSS G8 l4_2 (by omega)
  have z8 := G8.size
  replace hF := hF.grownSS G8 (by omega)
  clear G8 o3_0 o3_1 o3_2
  have o3_0 := oo0
  clear oo0
  have o3_1 := oo1
  clear oo1
  have o3_2 := oo2
  clear oo2
  have kaH_0 := BxaH.out.cell (j := 0) (v := .slice pa0_0 qa0_0 ra0_0) rfl
  have kaH_1 := BxaH.out.cell (j := 1) (v := .slice pa0_1 qa0_1 ra0_1) rfl
  have kaH_2 := BxaH.out.cell (j := 2) (v := .slice pa0_2 qa0_2 ra0_2) rfl
  have kaH_3 := BxaH.out.cell (j := 3) (v := .int .i64 ya0_0) rfl
  have kaH_4 := BxaH.out.cell (j := 4) (v := .int .i64 ya0_1) rfl
  have kaH_5 := BxaH.out.cell (j := 5) (v := .int .i64 ya0_2) rfl
  have kaH_6 := BxaH.out.cell (j := 6) (v := .int .i64 ya0_3) rfl
  have kw0_0 := Bxw0.out.cell (j := 0) (v := .slice p2_0 q2_0 r2_0) rfl
  have kw0_1 := Bxw0.out.cell (j := 1) (v := .slice p2_1 q2_1 r2_1) rfl
  have kw0_2 := Bxw0.out.cell (j := 2) (v := .slice p2_2 q2_2 r2_2) rfl
  have kw0_3 := Bxw0.out.cell (j := 3) (v := .int .i64 ((dV (houseB xa0_0 xa0_1 xa0_2 ya0_0 ya0_1 ya0_2 ya0_3) ya0_0))) rfl
  have kw0_4 := Bxw0.out.cell (j := 4) (v := .int .i64 ((dV (houseB xa0_0 xa0_1 xa0_2 ya0_0 ya0_1 ya0_2 ya0_3) ya0_1))) rfl
  have kw0_5 := Bxw0.out.cell (j := 5) (v := .int .i64 ((dV (houseB xa0_0 xa0_1 xa0_2 ya0_0 ya0_1 ya0_2 ya0_3) ya0_2))) rfl
  have kw0_6 := Bxw0.out.cell (j := 6) (v := .int .i64 ((dV (houseB xa0_0 xa0_1 xa0_2 ya0_0 ya0_1 ya0_2 ya0_3) ya0_3))) rfl
  have kw0_7 := Bxw0.out.cell (j := 7) (v := .string ⟨#[]⟩) rfl
  have kw0_8 := Bxw0.out.cell (j := 8) (v := .string ⟨#[]⟩) rfl
  have kw0_9 := Bxw0.out.cell (j := 9) (v := .int .i64 (0)) rfl
  have kx0_0 := Bxx0.out.cell (j := 0) (v := .slice p3_0 q3_0 r3_0) rfl
  have kx0_1 := Bxx0.out.cell (j := 1) (v := .slice p3_1 q3_1 r3_1) rfl
  have kx0_2 := Bxx0.out.cell (j := 2) (v := .slice p3_2 q3_2 r3_2) rfl
  have kx0_3 := Bxx0.out.cell (j := 3) (v := .int .i64 (ya0_0)) rfl
  have kx0_4 := Bxx0.out.cell (j := 4) (v := .int .i64 (ya0_1)) rfl
  have kx0_5 := Bxx0.out.cell (j := 5) (v := .int .i64 (ya0_2)) rfl
  have kx0_6 := Bxx0.out.cell (j := 6) (v := .int .i64 (ya0_3)) rfl
  have kg0_0 := Bxg0.out.cell (j := 0) (v := .slice p4_0 q4_0 r4_0) rfl
  have kg0_1 := Bxg0.out.cell (j := 1) (v := .slice p4_1 q4_1 r4_1) rfl
  have kg0_2 := Bxg0.out.cell (j := 2) (v := .slice p4_2 q4_2 r4_2) rfl
  have kg0_3 := Bxg0.out.cell (j := 3) (v := .int .i64 ((dV (houseB xa0_0 xa0_1 xa0_2 ya0_0 ya0_1 ya0_2 ya0_3) ya0_0))) rfl
  have kg0_4 := Bxg0.out.cell (j := 4) (v := .int .i64 ((dV (houseB xa0_0 xa0_1 xa0_2 ya0_0 ya0_1 ya0_2 ya0_3) ya0_1))) rfl
  have kg0_5 := Bxg0.out.cell (j := 5) (v := .int .i64 ((dV (houseB xa0_0 xa0_1 xa0_2 ya0_0 ya0_1 ya0_2 ya0_3) ya0_2))) rfl
  have kg0_6 := Bxg0.out.cell (j := 6) (v := .int .i64 ((dV (houseB xa0_0 xa0_1 xa0_2 ya0_0 ya0_1 ya0_2 ya0_3) ya0_3))) rfl
  have kg0_7 := Bxg0.out.cell (j := 7) (v := .string ⟨#[]⟩) rfl
  have kg0_8 := Bxg0.out.cell (j := 8) (v := .string ⟨#[]⟩) rfl
  have kg0_9 := Bxg0.out.cell (j := 9) (v := .int .i64 (0)) rfl
  have hFx := hF
  go_wp2_with fail
  clear kaH_0 kaH_1 kaH_2 kaH_3 kaH_4 kaH_5 kaH_6 kw0_0 kw0_1 kw0_2 kw0_3 kw0_4 kw0_5 kw0_6 kw0_7 kw0_8 kw0_9 kx0_0 kx0_1 kx0_2 kx0_3 kx0_4 kx0_5 kx0_6 kg0_0 kg0_1 kg0_2 kg0_3 kg0_4 kg0_5 kg0_6 kg0_7 kg0_8 kg0_9
  refine (eqConsole_same _ _ _ _ _ _ _ _ _ _ _ _ _ _ _ _ _ _ _ _ _ _ _ _ _ _ o4_0.sl o4_1.sl o4_2.sl o2_0.sl o2_1.sl o2_2.sl).mono ?_
  rintro e w9 ⟨rfl, f9⟩
  replace BxaH := Lib.hid (BxaH.out.fr f9)
  replace Bxw0 := Lib.hid (Bxw0.out.fr f9)
  replace Bxx0 := Lib.hid (Bxx0.out.fr f9)
  replace Bxg0 := Lib.hid (Bxg0.out.fr f9)
  replace o1_0 := o1_0.fr f9
  replace o1_1 := o1_1.fr f9
  replace o1_2 := o1_2.fr f9
  replace o2_0 := o2_0.fr f9
  replace o2_1 := o2_1.fr f9
  replace o2_2 := o2_2.fr f9
  replace o3_0 := o3_0.fr f9
  replace o3_1 := o3_1.fr f9
  replace o3_2 := o3_2.fr f9
  replace o4_0 := o4_0.fr f9
  replace o4_1 := o4_1.fr f9
  replace o4_2 := o4_2.fr f9
  have z9 := f9.size
  replace hF := hF.trans f9
  clear f9
  have kaH_0 := BxaH.out.cell (j := 0) (v := .slice pa0_0 qa0_0 ra0_0) rfl
  have kaH_1 := BxaH.out.cell (j := 1) (v := .slice pa0_1 qa0_1 ra0_1) rfl
  have kaH_2 := BxaH.out.cell (j := 2) (v := .slice pa0_2 qa0_2 ra0_2) rfl
  have kaH_3 := BxaH.out.cell (j := 3) (v := .int .i64 ya0_0) rfl
  have kaH_4 := BxaH.out.cell (j := 4) (v := .int .i64 ya0_1) rfl
  have kaH_5 := BxaH.out.cell (j := 5) (v := .int .i64 ya0_2) rfl
  have kaH_6 := BxaH.out.cell (j := 6) (v := .int .i64 ya0_3) rfl
  have kw0_0 := Bxw0.out.cell (j := 0) (v := .slice p2_0 q2_0 r2_0) rfl
  have kw0_1 := Bxw0.out.cell (j := 1) (v := .slice p2_1 q2_1 r2_1) rfl
  have kw0_2 := Bxw0.out.cell (j := 2) (v := .slice p2_2 q2_2 r2_2) rfl
  have kw0_3 := Bxw0.out.cell (j := 3) (v := .int .i64 ((dV (houseB xa0_0 xa0_1 xa0_2 ya0_0 ya0_1 ya0_2 ya0_3) ya0_0))) rfl
  have kw0_4 := Bxw0.out.cell (j := 4) (v := .int .i64 ((dV (houseB xa0_0 xa0_1 xa0_2 ya0_0 ya0_1 ya0_2 ya0_3) ya0_1))) rfl
  have kw0_5 := Bxw0.out.cell (j := 5) (v := .int .i64 ((dV (houseB xa0_0 xa0_1 xa0_2 ya0_0 ya0_1 ya0_2 ya0_3) ya0_2))) rfl
  have kw0_6 := Bxw0.out.cell (j := 6) (v := .int .i64 ((dV (houseB xa0_0 xa0_1 xa0_2 ya0_0 ya0_1 ya0_2 ya0_3) ya0_3))) rfl
  have kw0_7 := Bxw0.out.cell (j := 7) (v := .string ⟨#[]⟩) rfl
  have kw0_8 := Bxw0.out.cell (j := 8) (v := .string ⟨#[]⟩) rfl
  have kw0_9 := Bxw0.out.cell (j := 9) (v := .int .i64 (0)) rfl
  have kg0_0 := Bxg0.out.cell (j := 0) (v := .slice p4_0 q4_0 r4_0) rfl
  have kg0_1 := Bxg0.out.cell (j := 1) (v := .slice p4_1 q4_1 r4_1) rfl
  have kg0_2 := Bxg0.out.cell (j := 2) (v := .slice p4_2 q4_2 r4_2) rfl
  have kg0_3 := Bxg0.out.cell (j := 3) (v := .int .i64 ((dV (houseB xa0_0 xa0_1 xa0_2 ya0_0 ya0_1 ya0_2 ya0_3) ya0_0))) rfl
  have kg0_4 := Bxg0.out.cell (j := 4) (v := .int .i64 ((dV (houseB xa0_0 xa0_1 xa0_2 ya0_0 ya0_1 ya0_2 ya0_3) ya0_1))) rfl
  have kg0_5 := Bxg0.out.cell (j := 5) (v := .int .i64 ((dV (houseB xa0_0 xa0_1 xa0_2 ya0_0 ya0_1 ya0_2 ya0_3) ya0_2))) rfl
  have kg0_6 := Bxg0.out.cell (j := 6) (v := .int .i64 ((dV (houseB xa0_0 xa0_1 xa0_2 ya0_0 ya0_1 ya0_2 ya0_3) ya0_3))) rfl
  have kg0_7 := Bxg0.out.cell (j := 7) (v := .string ⟨#[]⟩) rfl
  have kg0_8 := Bxg0.out.cell (j := 8) (v := .string ⟨#[]⟩) rfl
  have kg0_9 := Bxg0.out.cell (j := 9) (v := .int .i64 (0)) rfl
  clear hFx
  go_wp2_with fail
  clear kaH_0 kaH_1 kaH_2 kaH_3 kaH_4 kaH_5 kaH_6 kw0_0 kw0_1 kw0_2 kw0_3 kw0_4 kw0_5 kw0_6 kw0_7 kw0_8 kw0_9 kg0_0 kg0_1 kg0_2 kg0_3 kg0_4 kg0_5 kg0_6 kg0_7 kg0_8 kg0_9
  refine (markConsole_any _ _ _ _ _ _ _ _ _ _ _ _ _ _ _ _ _ _ _ _ _ 1 o4_0 o4_1 o4_2 l4_0 l4_1 l4_2 (by omega) (by omega) (by omega) (by omega) (by omega) (by omega) (by omega) (by omega) (by omega)).mono ?_
  rintro e w10 ⟨rfl, oo0, oo1, oo2, G10⟩
  replace BxaH := Lib.hid (BxaH.out.skipIn G10 (by omega))
  replace Bxw0 := Lib.hid (Bxw0.out.skipIn G10 (by omega))
  replace Bxx0 := Lib.hid (Bxx0.out.skipIn G10 (by omega))
  replace Bxg0 := Lib.hid (Bxg0.out.skipIn G10 (by omega))
  replace o1_0 := o1_0.skipSS G10 l1_0 (by omega)
  replace o1_1 := o1_1.skipSS G10 l1_1 (by omega)
  replace o1_2 := o1_2.skipSS G10 l1_2 (by omega)
  replace o2_0 := o2_0.skipSS G10 l2_0 (by omega)
  replace o2_1 := o2_1.skipSS G10 l2_1 (by omega)
  replace o2_2 := o2_2.skipSS G10 l2_2 (by omega)
  replace o3_0 := o3_0.skipSS G10 l3_0 (by omega)
  replace o3_1 := o3_1.skipSS G10 l3_1 (by omega)
  replace o3_2 := o3_2.skipSS G10 l3_2 (by omega)
  have z10 := G10.size
  replace hF := hF.grownSS G10 (by omega)
  clear G10 o4_0 o4_1 o4_2
  have o4_0 := oo0
  clear oo0
  have o4_1 := oo1
  clear oo1
  have o4_2 := oo2
  clear oo2
  have kaH_0 := BxaH.out.cell (j := 0) (v := .slice pa0_0 qa0_0 ra0_0) rfl
  have kaH_1 := BxaH.out.cell (j := 1) (v := .slice pa0_1 qa0_1 ra0_1) rfl
  have kaH_2 := BxaH.out.cell (j := 2) (v := .slice pa0_2 qa0_2 ra0_2) rfl
  have kaH_3 := BxaH.out.cell (j := 3) (v := .int .i64 ya0_0) rfl
  have kaH_4 := BxaH.out.cell (j := 4) (v := .int .i64 ya0_1) rfl
  have kaH_5 := BxaH.out.cell (j := 5) (v := .int .i64 ya0_2) rfl
  have kaH_6 := BxaH.out.cell (j := 6) (v := .int .i64 ya0_3) rfl
  have kw0_0 := Bxw0.out.cell (j := 0) (v := .slice p2_0 q2_0 r2_0) rfl
  have kw0_1 := Bxw0.out.cell (j := 1) (v := .slice p2_1 q2_1 r2_1) rfl
  have kw0_2 := Bxw0.out.cell (j := 2) (v := .slice p2_2 q2_2 r2_2) rfl
  have kw0_3 := Bxw0.out.cell (j := 3) (v := .int .i64 ((dV (houseB xa0_0 xa0_1 xa0_2 ya0_0 ya0_1 ya0_2 ya0_3) ya0_0))) rfl
  have kw0_4 := Bxw0.out.cell (j := 4) (v := .int .i64 ((dV (houseB xa0_0 xa0_1 xa0_2 ya0_0 ya0_1 ya0_2 ya0_3) ya0_1))) rfl
  have kw0_5 := Bxw0.out.cell (j := 5) (v := .int .i64 ((dV (houseB xa0_0 xa0_1 xa0_2 ya0_0 ya0_1 ya0_2 ya0_3) ya0_2))) rfl
  have kw0_6 := Bxw0.out.cell (j := 6) (v := .int .i64 ((dV (houseB xa0_0 xa0_1 xa0_2 ya0_0 ya0_1 ya0_2 ya0_3) ya0_3))) rfl
  have kw0_7 := Bxw0.out.cell (j := 7) (v := .string ⟨#[]⟩) rfl
  have kw0_8 := Bxw0.out.cell (j := 8) (v := .string ⟨#[]⟩) rfl
  have kw0_9 := Bxw0.out.cell (j := 9) (v := .int .i64 (0)) rfl
  have kg0_0 := Bxg0.out.cell (j := 0) (v := .slice p4_0 q4_0 r4_0) rfl
  have kg0_1 := Bxg0.out.cell (j := 1) (v := .slice p4_1 q4_1 r4_1) rfl
  have kg0_2 := Bxg0.out.cell (j := 2) (v := .slice p4_2 q4_2 r4_2) rfl
  have kg0_3 := Bxg0.out.cell (j := 3) (v := .int .i64 ((dV (houseB xa0_0 xa0_1 xa0_2 ya0_0 ya0_1 ya0_2 ya0_3) ya0_0))) rfl
  have kg0_4 := Bxg0.out.cell (j := 4) (v := .int .i64 ((dV (houseB xa0_0 xa0_1 xa0_2 ya0_0 ya0_1 ya0_2 ya0_3) ya0_1))) rfl
  have kg0_5 := Bxg0.out.cell (j := 5) (v := .int .i64 ((dV (houseB xa0_0 xa0_1 xa0_2 ya0_0 ya0_1 ya0_2 ya0_3) ya0_2))) rfl
  have kg0_6 := Bxg0.out.cell (j := 6) (v := .int .i64 ((dV (houseB xa0_0 xa0_1 xa0_2 ya0_0 ya0_1 ya0_2 ya0_3) ya0_3))) rfl
  have kg0_7 := Bxg0.out.cell (j := 7) (v := .string ⟨#[]⟩) rfl
  have kg0_8 := Bxg0.out.cell (j := 8) (v := .string ⟨#[]⟩) rfl
  have kg0_9 := Bxg0.out.cell (j := 9) (v := .int .i64 (0)) rfl
  go_wp2_with fail
  clear kaH_0 kaH_1 kaH_2 kaH_3 kaH_4 kaH_5 kaH_6 kw0_0 kw0_1 kw0_2 kw0_3 kw0_4 kw0_5 kw0_6 kw0_7 kw0_8 kw0_9 kg0_0 kg0_1 kg0_2 kg0_3 kg0_4 kg0_5 kg0_6 kg0_7 kg0_8 kg0_9
  refine (heldConsole_any _ _ _ _ _ _ _ _ _ _ _ _ _ _ 1 o4_0.sl o4_1.sl o4_2.sl (by omega) (by omega) (by omega) (by omega) (by omega)).mono ?_
  rintro e w11 ⟨rfl, f11⟩
  replace BxaH := Lib.hid (BxaH.out.fr f11)
  replace Bxw0 := Lib.hid (Bxw0.out.fr f11)
  replace Bxx0 := Lib.hid (Bxx0.out.fr f11)
  replace Bxg0 := Lib.hid (Bxg0.out.fr f11)
  replace o1_0 := o1_0.fr f11
  replace o1_1 := o1_1.fr f11
  replace o1_2 := o1_2.fr f11
  replace o2_0 := o2_0.fr f11
  replace o2_1 := o2_1.fr f11
  replace o2_2 := o2_2.fr f11
  replace o3_0 := o3_0.fr f11
  replace o3_1 := o3_1.fr f11
  replace o3_2 := o3_2.fr f11
  replace o4_0 := o4_0.fr f11
  replace o4_1 := o4_1.fr f11
  replace o4_2 := o4_2.fr f11
  have z11 := f11.size
  replace hF := hF.trans f11
  clear f11
  have kaH_0 := BxaH.out.cell (j := 0) (v := .slice pa0_0 qa0_0 ra0_0) rfl
  have kaH_1 := BxaH.out.cell (j := 1) (v := .slice pa0_1 qa0_1 ra0_1) rfl
  have kaH_2 := BxaH.out.cell (j := 2) (v := .slice pa0_2 qa0_2 ra0_2) rfl
  have kaH_3 := BxaH.out.cell (j := 3) (v := .int .i64 ya0_0) rfl
  have kaH_4 := BxaH.out.cell (j := 4) (v := .int .i64 ya0_1) rfl
  have kaH_5 := BxaH.out.cell (j := 5) (v := .int .i64 ya0_2) rfl
  have kaH_6 := BxaH.out.cell (j := 6) (v := .int .i64 ya0_3) rfl
  have kw0_0 := Bxw0.out.cell (j := 0) (v := .slice p2_0 q2_0 r2_0) rfl
  have kw0_1 := Bxw0.out.cell (j := 1) (v := .slice p2_1 q2_1 r2_1) rfl
  have kw0_2 := Bxw0.out.cell (j := 2) (v := .slice p2_2 q2_2 r2_2) rfl
  have kw0_3 := Bxw0.out.cell (j := 3) (v := .int .i64 ((dV (houseB xa0_0 xa0_1 xa0_2 ya0_0 ya0_1 ya0_2 ya0_3) ya0_0))) rfl
  have kw0_4 := Bxw0.out.cell (j := 4) (v := .int .i64 ((dV (houseB xa0_0 xa0_1 xa0_2 ya0_0 ya0_1 ya0_2 ya0_3) ya0_1))) rfl
  have kw0_5 := Bxw0.out.cell (j := 5) (v := .int .i64 ((dV (houseB xa0_0 xa0_1 xa0_2 ya0_0 ya0_1 ya0_2 ya0_3) ya0_2))) rfl
  have kw0_6 := Bxw0.out.cell (j := 6) (v := .int .i64 ((dV (houseB xa0_0 xa0_1 xa0_2 ya0_0 ya0_1 ya0_2 ya0_3) ya0_3))) rfl
  have kw0_7 := Bxw0.out.cell (j := 7) (v := .string ⟨#[]⟩) rfl
  have kw0_8 := Bxw0.out.cell (j := 8) (v := .string ⟨#[]⟩) rfl
  have kw0_9 := Bxw0.out.cell (j := 9) (v := .int .i64 (0)) rfl
  have kg0_0 := Bxg0.out.cell (j := 0) (v := .slice p4_0 q4_0 r4_0) rfl
  have kg0_1 := Bxg0.out.cell (j := 1) (v := .slice p4_1 q4_1 r4_1) rfl
  have kg0_2 := Bxg0.out.cell (j := 2) (v := .slice p4_2 q4_2 r4_2) rfl
  have kg0_3 := Bxg0.out.cell (j := 3) (v := .int .i64 ((dV (houseB xa0_0 xa0_1 xa0_2 ya0_0 ya0_1 ya0_2 ya0_3) ya0_0))) rfl
  have kg0_4 := Bxg0.out.cell (j := 4) (v := .int .i64 ((dV (houseB xa0_0 xa0_1 xa0_2 ya0_0 ya0_1 ya0_2 ya0_3) ya0_1))) rfl
  have kg0_5 := Bxg0.out.cell (j := 5) (v := .int .i64 ((dV (houseB xa0_0 xa0_1 xa0_2 ya0_0 ya0_1 ya0_2 ya0_3) ya0_2))) rfl
  have kg0_6 := Bxg0.out.cell (j := 6) (v := .int .i64 ((dV (houseB xa0_0 xa0_1 xa0_2 ya0_0 ya0_1 ya0_2 ya0_3) ya0_3))) rfl
  have kg0_7 := Bxg0.out.cell (j := 7) (v := .string ⟨#[]⟩) rfl
  have kg0_8 := Bxg0.out.cell (j := 8) (v := .string ⟨#[]⟩) rfl
  have kg0_9 := Bxg0.out.cell (j := 9) (v := .int .i64 (0)) rfl
  have hFx := hF
  go_wp2_with fail
  clear kaH_0 kaH_1 kaH_2 kaH_3 kaH_4 kaH_5 kaH_6 kw0_0 kw0_1 kw0_2 kw0_3 kw0_4 kw0_5 kw0_6 kw0_7 kw0_8 kw0_9 kg0_0 kg0_1 kg0_2 kg0_3 kg0_4 kg0_5 kg0_6 kg0_7 kg0_8 kg0_9
  refine (toHouse_any _ _ _ _ _ _ _ _ _ _ _ _ _ _ _ _ _ (sa0_0.fr hFx) (sa0_1.fr hFx) (sa0_2.fr hFx) (by omega) (by omega) (by omega)).mono ?_
  rintro e w12 ⟨p12_0, q12_0, r12_0, p12_1, q12_1, r12_1, p12_2, q12_2, r12_2, M12_0, M12_1, rfl, o12_0, o12_1, o12_2, l12_0, l12_1, y12_0, y12_1, y12_2, f12, e12_0, e12_1, e12_2⟩
  replace BxaH := Lib.hid (BxaH.out.fr f12)
  replace Bxw0 := Lib.hid (Bxw0.out.fr f12)
  replace Bxx0 := Lib.hid (Bxx0.out.fr f12)
  replace Bxg0 := Lib.hid (Bxg0.out.fr f12)
  replace o1_0 := o1_0.fr f12
  replace o1_1 := o1_1.fr f12
  replace o1_2 := o1_2.fr f12
  replace o2_0 := o2_0.fr f12
  replace o2_1 := o2_1.fr f12
  replace o2_2 := o2_2.fr f12
  replace o3_0 := o3_0.fr f12
  replace o3_1 := o3_1.fr f12
  replace o3_2 := o3_2.fr f12
  replace o4_0 := o4_0.fr f12
  replace o4_1 := o4_1.fr f12
  replace o4_2 := o4_2.fr f12
  have g12 := hF.size
  have z12 := f12.size
  replace hF := hF.trans f12
  clear f12
  have kaH_0 := BxaH.out.cell (j := 0) (v := .slice pa0_0 qa0_0 ra0_0) rfl
  have kaH_1 := BxaH.out.cell (j := 1) (v := .slice pa0_1 qa0_1 ra0_1) rfl
  have kaH_2 := BxaH.out.cell (j := 2) (v := .slice pa0_2 qa0_2 ra0_2) rfl
  have kaH_3 := BxaH.out.cell (j := 3) (v := .int .i64 ya0_0) rfl
  have kaH_4 := BxaH.out.cell (j := 4) (v := .int .i64 ya0_1) rfl
  have kaH_5 := BxaH.out.cell (j := 5) (v := .int .i64 ya0_2) rfl
  have kaH_6 := BxaH.out.cell (j := 6) (v := .int .i64 ya0_3) rfl
  have kw0_0 := Bxw0.out.cell (j := 0) (v := .slice p2_0 q2_0 r2_0) rfl
  have kw0_1 := Bxw0.out.cell (j := 1) (v := .slice p2_1 q2_1 r2_1) rfl
  have kw0_2 := Bxw0.out.cell (j := 2) (v := .slice p2_2 q2_2 r2_2) rfl
  have kw0_3 := Bxw0.out.cell (j := 3) (v := .int .i64 ((dV (houseB xa0_0 xa0_1 xa0_2 ya0_0 ya0_1 ya0_2 ya0_3) ya0_0))) rfl
  have kw0_4 := Bxw0.out.cell (j := 4) (v := .int .i64 ((dV (houseB xa0_0 xa0_1 xa0_2 ya0_0 ya0_1 ya0_2 ya0_3) ya0_1))) rfl
  have kw0_5 := Bxw0.out.cell (j := 5) (v := .int .i64 ((dV (houseB xa0_0 xa0_1 xa0_2 ya0_0 ya0_1 ya0_2 ya0_3) ya0_2))) rfl
  have kw0_6 := Bxw0.out.cell (j := 6) (v := .int .i64 ((dV (houseB xa0_0 xa0_1 xa0_2 ya0_0 ya0_1 ya0_2 ya0_3) ya0_3))) rfl
  have kw0_7 := Bxw0.out.cell (j := 7) (v := .string ⟨#[]⟩) rfl
  have kw0_8 := Bxw0.out.cell (j := 8) (v := .string ⟨#[]⟩) rfl
  have kw0_9 := Bxw0.out.cell (j := 9) (v := .int .i64 (0)) rfl
  have kg0_0 := Bxg0.out.cell (j := 0) (v := .slice p4_0 q4_0 r4_0) rfl
  have kg0_1 := Bxg0.out.cell (j := 1) (v := .slice p4_1 q4_1 r4_1) rfl
  have kg0_2 := Bxg0.out.cell (j := 2) (v := .slice p4_2 q4_2 r4_2) rfl
  have kg0_3 := Bxg0.out.cell (j := 3) (v := .int .i64 ((dV (houseB xa0_0 xa0_1 xa0_2 ya0_0 ya0_1 ya0_2 ya0_3) ya0_0))) rfl
  have kg0_4 := Bxg0.out.cell (j := 4) (v := .int .i64 ((dV (houseB xa0_0 xa0_1 xa0_2 ya0_0 ya0_1 ya0_2 ya0_3) ya0_1))) rfl
  have kg0_5 := Bxg0.out.cell (j := 5) (v := .int .i64 ((dV (houseB xa0_0 xa0_1 xa0_2 ya0_0 ya0_1 ya0_2 ya0_3) ya0_2))) rfl
  have kg0_6 := Bxg0.out.cell (j := 6) (v := .int .i64 ((dV (houseB xa0_0 xa0_1 xa0_2 ya0_0 ya0_1 ya0_2 ya0_3) ya0_3))) rfl
  have kg0_7 := Bxg0.out.cell (j := 7) (v := .string ⟨#[]⟩) rfl
  have kg0_8 := Bxg0.out.cell (j := 8) (v := .string ⟨#[]⟩) rfl
  have kg0_9 := Bxg0.out.cell (j := 9) (v := .int .i64 (0)) rfl
  clear hFx
  have l12_2 := o12_2.within
  have hFx := hF
  go_wp2_with fail
  clear kaH_0 kaH_1 kaH_2 kaH_3 kaH_4 kaH_5 kaH_6 kw0_0 kw0_1 kw0_2 kw0_3 kw0_4 kw0_5 kw0_6 kw0_7 kw0_8 kw0_9 kg0_0 kg0_1 kg0_2 kg0_3 kg0_4 kg0_5 kg0_6 kg0_7 kg0_8 kg0_9
  refine (impl_NewConsole_any _ _ _ _ _ _ _ _ _ _ _ _ _ _ _ _ _ o12_0.sl o12_1.sl o12_2.sl).mono ?_
  rintro e w13 ⟨p13_0, q13_0, r13_0, p13_1, q13_1, r13_1, p13_2, q13_2, r13_2, M13_0, M13_1, rfl, o13_0, o13_1, o13_2, l13_0, l13_1, y13_0, y13_1, y13_2, f13, e13_0, e13_1, e13_2⟩
  replace BxaH := Lib.hid (BxaH.out.fr f13)
  replace Bxw0 := Lib.hid (Bxw0.out.fr f13)
  replace Bxx0 := Lib.hid (Bxx0.out.fr f13)
  replace Bxg0 := Lib.hid (Bxg0.out.fr f13)
  replace o1_0 := o1_0.fr f13
  replace o1_1 := o1_1.fr f13
  replace o1_2 := o1_2.fr f13
  replace o2_0 := o2_0.fr f13
  replace o2_1 := o2_1.fr f13
  replace o2_2 := o2_2.fr f13
  replace o3_0 := o3_0.fr f13
  replace o3_1 := o3_1.fr f13
  replace o3_2 := o3_2.fr f13
  replace o4_0 := o4_0.fr f13
  replace o4_1 := o4_1.fr f13
  replace o4_2 := o4_2.fr f13
  replace o12_0 := o12_0.fr f13
  replace o12_1 := o12_1.fr f13
  replace o12_2 := o12_2.fr f13
  have g13 := hF.size
  have z13 := f13.size
  replace hF := hF.trans f13
  clear f13
  have kaH_0 := BxaH.out.cell (j := 0) (v := .slice pa0_0 qa0_0 ra0_0) rfl
  have kaH_1 := BxaH.out.cell (j := 1) (v := .slice pa0_1 qa0_1 ra0_1) rfl
  have kaH_2 := BxaH.out.cell (j := 2) (v := .slice pa0_2 qa0_2 ra0_2) rfl
  have kaH_3 := BxaH.out.cell (j := 3) (v := .int .i64 ya0_0) rfl
  have kaH_4 := BxaH.out.cell (j := 4) (v := .int .i64 ya0_1) rfl
  have kaH_5 := BxaH.out.cell (j := 5) (v := .int .i64 ya0_2) rfl
  have kaH_6 := BxaH.out.cell (j := 6) (v := .int .i64 ya0_3) rfl
  have kw0_0 := Bxw0.out.cell (j := 0) (v := .slice p2_0 q2_0 r2_0) rfl
  have kw0_1 := Bxw0.out.cell (j := 1) (v := .slice p2_1 q2_1 r2_1) rfl
  have kw0_2 := Bxw0.out.cell (j := 2) (v := .slice p2_2 q2_2 r2_2) rfl
  have kw0_3 := Bxw0.out.cell (j := 3) (v := .int .i64 ((dV (houseB xa0_0 xa0_1 xa0_2 ya0_0 ya0_1 ya0_2 ya0_3) ya0_0))) rfl
  have kw0_4 := Bxw0.out.cell (j := 4) (v := .int .i64 ((dV (houseB xa0_0 xa0_1 xa0_2 ya0_0 ya0_1 ya0_2 ya0_3) ya0_1))) rfl
  have kw0_5 := Bxw0.out.cell (j := 5) (v := .int .i64 ((dV (houseB xa0_0 xa0_1 xa0_2 ya0_0 ya0_1 ya0_2 ya0_3) ya0_2))) rfl
  have kw0_6 := Bxw0.out.cell (j := 6) (v := .int .i64 ((dV (houseB xa0_0 xa0_1 xa0_2 ya0_0 ya0_1 ya0_2 ya0_3) ya0_3))) rfl
  have kw0_7 := Bxw0.out.cell (j := 7) (v := .string ⟨#[]⟩) rfl
  have kw0_8 := Bxw0.out.cell (j := 8) (v := .string ⟨#[]⟩) rfl
  have kw0_9 := Bxw0.out.cell (j := 9) (v := .int .i64 (0)) rfl
  have kg0_0 := Bxg0.out.cell (j := 0) (v := .slice p4_0 q4_0 r4_0) rfl
  have kg0_1 := Bxg0.out.cell (j := 1) (v := .slice p4_1 q4_1 r4_1) rfl
  have kg0_2 := Bxg0.out.cell (j := 2) (v := .slice p4_2 q4_2 r4_2) rfl
  have kg0_3 := Bxg0.out.cell (j := 3) (v := .int .i64 ((dV (houseB xa0_0 xa0_1 xa0_2 ya0_0 ya0_1 ya0_2 ya0_3) ya0_0))) rfl
  have kg0_4 := Bxg0.out.cell (j := 4) (v := .int .i64 ((dV (houseB xa0_0 xa0_1 xa0_2 ya0_0 ya0_1 ya0_2 ya0_3) ya0_1))) rfl
  have kg0_5 := Bxg0.out.cell (j := 5) (v := .int .i64 ((dV (houseB xa0_0 xa0_1 xa0_2 ya0_0 ya0_1 ya0_2 ya0_3) ya0_2))) rfl
  have kg0_6 := Bxg0.out.cell (j := 6) (v := .int .i64 ((dV (houseB xa0_0 xa0_1 xa0_2 ya0_0 ya0_1 ya0_2 ya0_3) ya0_3))) rfl
  have kg0_7 := Bxg0.out.cell (j := 7) (v := .string ⟨#[]⟩) rfl
  have kg0_8 := Bxg0.out.cell (j := 8) (v := .string ⟨#[]⟩) rfl
  have kg0_9 := Bxg0.out.cell (j := 9) (v := .int .i64 (0)) rfl
  clear hFx
  have l13_2 := o13_2.within
  clear kaH_0 kaH_1 kaH_2 kaH_3 kaH_4 kaH_5 kaH_6 kw0_0 kw0_1 kw0_2 kw0_3 kw0_4 kw0_5 kw0_6 kw0_7 kw0_8 kw0_9 kg0_0 kg0_1 kg0_2 kg0_3 kg0_4 kg0_5 kg0_6 kg0_7 kg0_8 kg0_9
  have kaH_0 := (BxaH.out.alloc (.cells #[.slice p13_0 q13_0 r13_0, .slice p13_1 q13_1 r13_1, .slice p13_2 q13_2 r13_2, .int .i64 ((dV (houseB xa0_0 xa0_1 xa0_2 ya0_0 ya0_1 ya0_2 ya0_3) ya0_0)), .int .i64 ((dV (houseB xa0_0 xa0_1 xa0_2 ya0_0 ya0_1 ya0_2 ya0_3) ya0_1)), .int .i64 ((dV (houseB xa0_0 xa0_1 xa0_2 ya0_0 ya0_1 ya0_2 ya0_3) ya0_2)), .int .i64 ((dV (houseB xa0_0 xa0_1 xa0_2 ya0_0 ya0_1 ya0_2 ya0_3) ya0_3)), .string ⟨#[]⟩, .string ⟨#[]⟩, .int .i64 (0)] 41)).cell (j := 0) (v := .slice pa0_0 qa0_0 ra0_0) rfl
  have kaH_1 := (BxaH.out.alloc (.cells #[.slice p13_0 q13_0 r13_0, .slice p13_1 q13_1 r13_1, .slice p13_2 q13_2 r13_2, .int .i64 ((dV (houseB xa0_0 xa0_1 xa0_2 ya0_0 ya0_1 ya0_2 ya0_3) ya0_0)), .int .i64 ((dV (houseB xa0_0 xa0_1 xa0_2 ya0_0 ya0_1 ya0_2 ya0_3) ya0_1)), .int .i64 ((dV (houseB xa0_0 xa0_1 xa0_2 ya0_0 ya0_1 ya0_2 ya0_3) ya0_2)), .int .i64 ((dV (houseB xa0_0 xa0_1 xa0_2 ya0_0 ya0_1 ya0_2 ya0_3) ya0_3)), .string ⟨#[]⟩, .string ⟨#[]⟩, .int .i64 (0)] 41)).cell (j := 1) (v := .slice pa0_1 qa0_1 ra0_1) rfl
  have kaH_2 := (BxaH.out.alloc (.cells #[.slice p13_0 q13_0 r13_0, .slice p13_1 q13_1 r13_1, .slice p13_2 q13_2 r13_2, .int .i64 ((dV (houseB xa0_0 xa0_1 xa0_2 ya0_0 ya0_1 ya0_2 ya0_3) ya0_0)), .int .i64 ((dV (houseB xa0_0 xa0_1 xa0_2 ya0_0 ya0_1 ya0_2 ya0_3) ya0_1)), .int .i64 ((dV (houseB xa0_0 xa0_1 xa0_2 ya0_0 ya0_1 ya0_2 ya0_3) ya0_2)), .int .i64 ((dV (houseB xa0_0 xa0_1 xa0_2 ya0_0 ya0_1 ya0_2 ya0_3) ya0_3)), .string ⟨#[]⟩, .string ⟨#[]⟩, .int .i64 (0)] 41)).cell (j := 2) (v := .slice pa0_2 qa0_2 ra0_2) rfl
  have kaH_3 := (BxaH.out.alloc (.cells #[.slice p13_0 q13_0 r13_0, .slice p13_1 q13_1 r13_1, .slice p13_2 q13_2 r13_2, .int .i64 ((dV (houseB xa0_0 xa0_1 xa0_2 ya0_0 ya0_1 ya0_2 ya0_3) ya0_0)), .int .i64 ((dV (houseB xa0_0 xa0_1 xa0_2 ya0_0 ya0_1 ya0_2 ya0_3) ya0_1)), .int .i64 ((dV (houseB xa0_0 xa0_1 xa0_2 ya0_0 ya0_1 ya0_2 ya0_3) ya0_2)), .int .i64 ((dV (houseB xa0_0 xa0_1 xa0_2 ya0_0 ya0_1 ya0_2 ya0_3) ya0_3)), .string ⟨#[]⟩, .string ⟨#[]⟩, .int .i64 (0)] 41)).cell (j := 3) (v := .int .i64 ya0_0) rfl
  have kaH_4 := (BxaH.out.alloc (.cells #[.slice p13_0 q13_0 r13_0, .slice p13_1 q13_1 r13_1, .slice p13_2 q13_2 r13_2, .int .i64 ((dV (houseB xa0_0 xa0_1 xa0_2 ya0_0 ya0_1 ya0_2 ya0_3) ya0_0)), .int .i64 ((dV (houseB xa0_0 xa0_1 xa0_2 ya0_0 ya0_1 ya0_2 ya0_3) ya0_1)), .int .i64 ((dV (houseB xa0_0 xa0_1 xa0_2 ya0_0 ya0_1 ya0_2 ya0_3) ya0_2)), .int .i64 ((dV (houseB xa0_0 xa0_1 xa0_2 ya0_0 ya0_1 ya0_2 ya0_3) ya0_3)), .string ⟨#[]⟩, .string ⟨#[]⟩, .int .i64 (0)] 41)).cell (j := 4) (v := .int .i64 ya0_1) rfl
  have kaH_5 := (BxaH.out.alloc (.cells #[.slice p13_0 q13_0 r13_0, .slice p13_1 q13_1 r13_1, .slice p13_2 q13_2 r13_2, .int .i64 ((dV (houseB xa0_0 xa0_1 xa0_2 ya0_0 ya0_1 ya0_2 ya0_3) ya0_0)), .int .i64 ((dV (houseB xa0_0 xa0_1 xa0_2 ya0_0 ya0_1 ya0_2 ya0_3) ya0_1)), .int .i64 ((dV (houseB xa0_0 xa0_1 xa0_2 ya0_0 ya0_1 ya0_2 ya0_3) ya0_2)), .int .i64 ((dV (houseB xa0_0 xa0_1 xa0_2 ya0_0 ya0_1 ya0_2 ya0_3) ya0_3)), .string ⟨#[]⟩, .string ⟨#[]⟩, .int .i64 (0)] 41)).cell (j := 5) (v := .int .i64 ya0_2) rfl
  have kaH_6 := (BxaH.out.alloc (.cells #[.slice p13_0 q13_0 r13_0, .slice p13_1 q13_1 r13_1, .slice p13_2 q13_2 r13_2, .int .i64 ((dV (houseB xa0_0 xa0_1 xa0_2 ya0_0 ya0_1 ya0_2 ya0_3) ya0_0)), .int .i64 ((dV (houseB xa0_0 xa0_1 xa0_2 ya0_0 ya0_1 ya0_2 ya0_3) ya0_1)), .int .i64 ((dV (houseB xa0_0 xa0_1 xa0_2 ya0_0 ya0_1 ya0_2 ya0_3) ya0_2)), .int .i64 ((dV (houseB xa0_0 xa0_1 xa0_2 ya0_0 ya0_1 ya0_2 ya0_3) ya0_3)), .string ⟨#[]⟩, .string ⟨#[]⟩, .int .i64 (0)] 41)).cell (j := 6) (v := .int .i64 ya0_3) rfl
  have kw0_0 := (Bxw0.out.alloc (.cells #[.slice p13_0 q13_0 r13_0, .slice p13_1 q13_1 r13_1, .slice p13_2 q13_2 r13_2, .int .i64 ((dV (houseB xa0_0 xa0_1 xa0_2 ya0_0 ya0_1 ya0_2 ya0_3) ya0_0)), .int .i64 ((dV (houseB xa0_0 xa0_1 xa0_2 ya0_0 ya0_1 ya0_2 ya0_3) ya0_1)), .int .i64 ((dV (houseB xa0_0 xa0_1 xa0_2 ya0_0 ya0_1 ya0_2 ya0_3) ya0_2)), .int .i64 ((dV (houseB xa0_0 xa0_1 xa0_2 ya0_0 ya0_1 ya0_2 ya0_3) ya0_3)), .string ⟨#[]⟩, .string ⟨#[]⟩, .int .i64 (0)] 41)).cell (j := 0) (v := .slice p2_0 q2_0 r2_0) rfl
  have kw0_1 := (Bxw0.out.alloc (.cells #[.slice p13_0 q13_0 r13_0, .slice p13_1 q13_1 r13_1, .slice p13_2 q13_2 r13_2, .int .i64 ((dV (houseB xa0_0 xa0_1 xa0_2 ya0_0 ya0_1 ya0_2 ya0_3) ya0_0)), .int .i64 ((dV (houseB xa0_0 xa0_1 xa0_2 ya0_0 ya0_1 ya0_2 ya0_3) ya0_1)), .int .i64 ((dV (houseB xa0_0 xa0_1 xa0_2 ya0_0 ya0_1 ya0_2 ya0_3) ya0_2)), .int .i64 ((dV (houseB xa0_0 xa0_1 xa0_2 ya0_0 ya0_1 ya0_2 ya0_3) ya0_3)), .string ⟨#[]⟩, .string ⟨#[]⟩, .int .i64 (0)] 41)).cell (j := 1) (v := .slice p2_1 q2_1 r2_1) rfl
  have kw0_2 := (Bxw0.out.alloc (.cells #[.slice p13_0 q13_0 r13_0, .slice p13_1 q13_1 r13_1, .slice p13_2 q13_2 r13_2, .int .i64 ((dV (houseB xa0_0 xa0_1 xa0_2 ya0_0 ya0_1 ya0_2 ya0_3) ya0_0)), .int .i64 ((dV (houseB xa0_0 xa0_1 xa0_2 ya0_0 ya0_1 ya0_2 ya0_3) ya0_1)), .int .i64 ((dV (houseB xa0_0 xa0_1 xa0_2 ya0_0 ya0_1 ya0_2 ya0_3) ya0_2)), .int .i64 ((dV (houseB xa0_0 xa0_1 xa0_2 ya0_0 ya0_1 ya0_2 ya0_3) ya0_3)), .string ⟨#[]⟩, .string ⟨#[]⟩, .int .i64 (0)] 41)).cell (j := 2) (v := .slice p2_2 q2_2 r2_2) rfl
  have kw0_3 := (Bxw0.out.alloc (.cells #[.slice p13_0 q13_0 r13_0, .slice p13_1 q13_1 r13_1, .slice p13_2 q13_2 r13_2, .int .i64 ((dV (houseB xa0_0 xa0_1 xa0_2 ya0_0 ya0_1 ya0_2 ya0_3) ya0_0)), .int .i64 ((dV (houseB xa0_0 xa0_1 xa0_2 ya0_0 ya0_1 ya0_2 ya0_3) ya0_1)), .int .i64 ((dV (houseB xa0_0 xa0_1 xa0_2 ya0_0 ya0_1 ya0_2 ya0_3) ya0_2)), .int .i64 ((dV (houseB xa0_0 xa0_1 xa0_2 ya0_0 ya0_1 ya0_2 ya0_3) ya0_3)), .string ⟨#[]⟩, .string ⟨#[]⟩, .int .i64 (0)] 41)).cell (j := 3) (v := .int .i64 ((dV (houseB xa0_0 xa0_1 xa0_2 ya0_0 ya0_1 ya0_2 ya0_3) ya0_0))) rfl
  have kw0_4 := (Bxw0.out.alloc (.cells #[.slice p13_0 q13_0 r13_0, .slice p13_1 q13_1 r13_1, .slice p13_2 q13_2 r13_2, .int .i64 ((dV (houseB xa0_0 xa0_1 xa0_2 ya0_0 ya0_1 ya0_2 ya0_3) ya0_0)), .int .i64 ((dV (houseB xa0_0 xa0_1 xa0_2 ya0_0 ya0_1 ya0_2 ya0_3) ya0_1)), .int .i64 ((dV (houseB xa0_0 xa0_1 xa0_2 ya0_0 ya0_1 ya0_2 ya0_3) ya0_2)), .int .i64 ((dV (houseB xa0_0 xa0_1 xa0_2 ya0_0 ya0_1 ya0_2 ya0_3) ya0_3)), .string ⟨#[]⟩, .string ⟨#[]⟩, .int .i64 (0)] 41)).cell (j := 4) (v := .int .i64 ((dV (houseB xa0_0 xa0_1 xa0_2 ya0_0 ya0_1 ya0_2 ya0_3) ya0_1))) rfl
  have kw0_5 := (Bxw0.out.alloc (.cells #[.slice p13_0 q13_0 r13_0, .slice p13_1 q13_1 r13_1, .slice p13_2 q13_2 r13_2, .int .i64 ((dV (houseB xa0_0 xa0_1 xa0_2 ya0_0 ya0_1 ya0_2 ya0_3) ya0_0)), .int .i64 ((dV (houseB xa0_0 xa0_1 xa0_2 ya0_0 ya0_1 ya0_2 ya0_3) ya0_1)), .int .i64 ((dV (houseB xa0_0 xa0_1 xa0_2 ya0_0 ya0_1 ya0_2 ya0_3) ya0_2)), .int .i64 ((dV (houseB xa0_0 xa0_1 xa0_2 ya0_0 ya0_1 ya0_2 ya0_3) ya0_3)), .string ⟨#[]⟩, .string ⟨#[]⟩, .int .i64 (0)] 41)).cell (j := 5) (v := .int .i64 ((dV (houseB xa0_0 xa0_1 xa0_2 ya0_0 ya0_1 ya0_2 ya0_3) ya0_2))) rfl
  have kw0_6 := (Bxw0.out.alloc (.cells #[.slice p13_0 q13_0 r13_0, .slice p13_1 q13_1 r13_1, .slice p13_2 q13_2 r13_2, .int .i64 ((dV (houseB xa0_0 xa0_1 xa0_2 ya0_0 ya0_1 ya0_2 ya0_3) ya0_0)), .int .i64 ((dV (houseB xa0_0 xa0_1 xa0_2 ya0_0 ya0_1 ya0_2 ya0_3) ya0_1)), .int .i64 ((dV (houseB xa0_0 xa0_1 xa0_2 ya0_0 ya0_1 ya0_2 ya0_3) ya0_2)), .int .i64 ((dV (houseB xa0_0 xa0_1 xa0_2 ya0_0 ya0_1 ya0_2 ya0_3) ya0_3)), .string ⟨#[]⟩, .string ⟨#[]⟩, .int .i64 (0)] 41)).cell (j := 6) (v := .int .i64 ((dV (houseB xa0_0 xa0_1 xa0_2 ya0_0 ya0_1 ya0_2 ya0_3) ya0_3))) rfl
  have kw0_7 := (Bxw0.out.alloc (.cells #[.slice p13_0 q13_0 r13_0, .slice p13_1 q13_1 r13_1, .slice p13_2 q13_2 r13_2, .int .i64 ((dV (houseB xa0_0 xa0_1 xa0_2 ya0_0 ya0_1 ya0_2 ya0_3) ya0_0)), .int .i64 ((dV (houseB xa0_0 xa0_1 xa0_2 ya0_0 ya0_1 ya0_2 ya0_3) ya0_1)), .int .i64 ((dV (houseB xa0_0 xa0_1 xa0_2 ya0_0 ya0_1 ya0_2 ya0_3) ya0_2)), .int .i64 ((dV (houseB xa0_0 xa0_1 xa0_2 ya0_0 ya0_1 ya0_2 ya0_3) ya0_3)), .string ⟨#[]⟩, .string ⟨#[]⟩, .int .i64 (0)] 41)).cell (j := 7) (v := .string ⟨#[]⟩) rfl
  have kw0_8 := (Bxw0.out.alloc (.cells #[.slice p13_0 q13_0 r13_0, .slice p13_1 q13_1 r13_1, .slice p13_2 q13_2 r13_2, .int .i64 ((dV (houseB xa0_0 xa0_1 xa0_2 ya0_0 ya0_1 ya0_2 ya0_3) ya0_0)), .int .i64 ((dV (houseB xa0_0 xa0_1 xa0_2 ya0_0 ya0_1 ya0_2 ya0_3) ya0_1)), .int .i64 ((dV (houseB xa0_0 xa0_1 xa0_2 ya0_0 ya0_1 ya0_2 ya0_3) ya0_2)), .int .i64 ((dV (houseB xa0_0 xa0_1 xa0_2 ya0_0 ya0_1 ya0_2 ya0_3) ya0_3)), .string ⟨#[]⟩, .string ⟨#[]⟩, .int .i64 (0)] 41)).cell (j := 8) (v := .string ⟨#[]⟩) rfl
  have kw0_9 := (Bxw0.out.alloc (.cells #[.slice p13_0 q13_0 r13_0, .slice p13_1 q13_1 r13_1, .slice p13_2 q13_2 r13_2, .int .i64 ((dV (houseB xa0_0 xa0_1 xa0_2 ya0_0 ya0_1 ya0_2 ya0_3) ya0_0)), .int .i64 ((dV (houseB xa0_0 xa0_1 xa0_2 ya0_0 ya0_1 ya0_2 ya0_3) ya0_1)), .int .i64 ((dV (houseB xa0_0 xa0_1 xa0_2 ya0_0 ya0_1 ya0_2 ya0_3) ya0_2)), .int .i64 ((dV (houseB xa0_0 xa0_1 xa0_2 ya0_0 ya0_1 ya0_2 ya0_3) ya0_3)), .string ⟨#[]⟩, .string ⟨#[]⟩, .int .i64 (0)] 41)).cell (j := 9) (v := .int .i64 (0)) rfl
  have kg0_0 := (Bxg0.out.alloc (.cells #[.slice p13_0 q13_0 r13_0, .slice p13_1 q13_1 r13_1, .slice p13_2 q13_2 r13_2, .int .i64 ((dV (houseB xa0_0 xa0_1 xa0_2 ya0_0 ya0_1 ya0_2 ya0_3) ya0_0)), .int .i64 ((dV (houseB xa0_0 xa0_1 xa0_2 ya0_0 ya0_1 ya0_2 ya0_3) ya0_1)), .int .i64 ((dV (houseB xa0_0 xa0_1 xa0_2 ya0_0 ya0_1 ya0_2 ya0_3) ya0_2)), .int .i64 ((dV (houseB xa0_0 xa0_1 xa0_2 ya0_0 ya0_1 ya0_2 ya0_3) ya0_3)), .string ⟨#[]⟩, .string ⟨#[]⟩, .int .i64 (0)] 41)).cell (j := 0) (v := .slice p4_0 q4_0 r4_0) rfl
  have kg0_1 := (Bxg0.out.alloc (.cells #[.slice p13_0 q13_0 r13_0, .slice p13_1 q13_1 r13_1, .slice p13_2 q13_2 r13_2, .int .i64 ((dV (houseB xa0_0 xa0_1 xa0_2 ya0_0 ya0_1 ya0_2 ya0_3) ya0_0)), .int .i64 ((dV (houseB xa0_0 xa0_1 xa0_2 ya0_0 ya0_1 ya0_2 ya0_3) ya0_1)), .int .i64 ((dV (houseB xa0_0 xa0_1 xa0_2 ya0_0 ya0_1 ya0_2 ya0_3) ya0_2)), .int .i64 ((dV (houseB xa0_0 xa0_1 xa0_2 ya0_0 ya0_1 ya0_2 ya0_3) ya0_3)), .string ⟨#[]⟩, .string ⟨#[]⟩, .int .i64 (0)] 41)).cell (j := 1) (v := .slice p4_1 q4_1 r4_1) rfl
  have kg0_2 := (Bxg0.out.alloc (.cells #[.slice p13_0 q13_0 r13_0, .slice p13_1 q13_1 r13_1, .slice p13_2 q13_2 r13_2, .int .i64 ((dV (houseB xa0_0 xa0_1 xa0_2 ya0_0 ya0_1 ya0_2 ya0_3) ya0_0)), .int .i64 ((dV (houseB xa0_0 xa0_1 xa0_2 ya0_0 ya0_1 ya0_2 ya0_3) ya0_1)), .int .i64 ((dV (houseB xa0_0 xa0_1 xa0_2 ya0_0 ya0_1 ya0_2 ya0_3) ya0_2)), .int .i64 ((dV (houseB xa0_0 xa0_1 xa0_2 ya0_0 ya0_1 ya0_2 ya0_3) ya0_3)), .string ⟨#[]⟩, .string ⟨#[]⟩, .int .i64 (0)] 41)).cell (j := 2) (v := .slice p4_2 q4_2 r4_2) rfl
  have kg0_3 := (Bxg0.out.alloc (.cells #[.slice p13_0 q13_0 r13_0, .slice p13_1 q13_1 r13_1, .slice p13_2 q13_2 r13_2, .int .i64 ((dV (houseB xa0_0 xa0_1 xa0_2 ya0_0 ya0_1 ya0_2 ya0_3) ya0_0)), .int .i64 ((dV (houseB xa0_0 xa0_1 xa0_2 ya0_0 ya0_1 ya0_2 ya0_3) ya0_1)), .int .i64 ((dV (houseB xa0_0 xa0_1 xa0_2 ya0_0 ya0_1 ya0_2 ya0_3) ya0_2)), .int .i64 ((dV (houseB xa0_0 xa0_1 xa0_2 ya0_0 ya0_1 ya0_2 ya0_3) ya0_3)), .string ⟨#[]⟩, .string ⟨#[]⟩, .int .i64 (0)] 41)).cell (j := 3) (v := .int .i64 ((dV (houseB xa0_0 xa0_1 xa0_2 ya0_0 ya0_1 ya0_2 ya0_3) ya0_0))) rfl
  have kg0_4 := (Bxg0.out.alloc (.cells #[.slice p13_0 q13_0 r13_0, .slice p13_1 q13_1 r13_1, .slice p13_2 q13_2 r13_2, .int .i64 ((dV (houseB xa0_0 xa0_1 xa0_2 ya0_0 ya0_1 ya0_2 ya0_3) ya0_0)), .int .i64 ((dV (houseB xa0_0 xa0_1 xa0_2 ya0_0 ya0_1 ya0_2 ya0_3) ya0_1)), .int .i64 ((dV (houseB xa0_0 xa0_1 xa0_2 ya0_0 ya0_1 ya0_2 ya0_3) ya0_2)), .int .i64 ((dV (houseB xa0_0 xa0_1 xa0_2 ya0_0 ya0_1 ya0_2 ya0_3) ya0_3)), .string ⟨#[]⟩, .string ⟨#[]⟩, .int .i64 (0)] 41)).cell (j := 4) (v := .int .i64 ((dV (houseB xa0_0 xa0_1 xa0_2 ya0_0 ya0_1 ya0_2 ya0_3) ya0_1))) rfl
  have kg0_5 := (Bxg0.out.alloc (.cells #[.slice p13_0 q13_0 r13_0, .slice p13_1 q13_1 r13_1, .slice p13_2 q13_2 r13_2, .int .i64 ((dV (houseB xa0_0 xa0_1 xa0_2 ya0_0 ya0_1 ya0_2 ya0_3) ya0_0)), .int .i64 ((dV (houseB xa0_0 xa0_1 xa0_2 ya0_0 ya0_1 ya0_2 ya0_3) ya0_1)), .int .i64 ((dV (houseB xa0_0 xa0_1 xa0_2 ya0_0 ya0_1 ya0_2 ya0_3) ya0_2)), .int .i64 ((dV (houseB xa0_0 xa0_1 xa0_2 ya0_0 ya0_1 ya0_2 ya0_3) ya0_3)), .string ⟨#[]⟩, .string ⟨#[]⟩, .int .i64 (0)] 41)).cell (j := 5) (v := .int .i64 ((dV (houseB xa0_0 xa0_1 xa0_2 ya0_0 ya0_1 ya0_2 ya0_3) ya0_2))) rfl
  have kg0_6 := (Bxg0.out.alloc (.cells #[.slice p13_0 q13_0 r13_0, .slice p13_1 q13_1 r13_1, .slice p13_2 q13_2 r13_2, .int .i64 ((dV (houseB xa0_0 xa0_1 xa0_2 ya0_0 ya0_1 ya0_2 ya0_3) ya0_0)), .int .i64 ((dV (houseB xa0_0 xa0_1 xa0_2 ya0_0 ya0_1 ya0_2 ya0_3) ya0_1)), .int .i64 ((dV (houseB xa0_0 xa0_1 xa0_2 ya0_0 ya0_1 ya0_2 ya0_3) ya0_2)), .int .i64 ((dV (houseB xa0_0 xa0_1 xa0_2 ya0_0 ya0_1 ya0_2 ya0_3) ya0_3)), .string ⟨#[]⟩, .string ⟨#[]⟩, .int .i64 (0)] 41)).cell (j := 6) (v := .int .i64 ((dV (houseB xa0_0 xa0_1 xa0_2 ya0_0 ya0_1 ya0_2 ya0_3) ya0_3))) rfl
  have kg0_7 := (Bxg0.out.alloc (.cells #[.slice p13_0 q13_0 r13_0, .slice p13_1 q13_1 r13_1, .slice p13_2 q13_2 r13_2, .int .i64 ((dV (houseB xa0_0 xa0_1 xa0_2 ya0_0 ya0_1 ya0_2 ya0_3) ya0_0)), .int .i64 ((dV (houseB xa0_0 xa0_1 xa0_2 ya0_0 ya0_1 ya0_2 ya0_3) ya0_1)), .int .i64 ((dV (houseB xa0_0 xa0_1 xa0_2 ya0_0 ya0_1 ya0_2 ya0_3) ya0_2)), .int .i64 ((dV (houseB xa0_0 xa0_1 xa0_2 ya0_0 ya0_1 ya0_2 ya0_3) ya0_3)), .string ⟨#[]⟩, .string ⟨#[]⟩, .int .i64 (0)] 41)).cell (j := 7) (v := .string ⟨#[]⟩) rfl
  have kg0_8 := (Bxg0.out.alloc (.cells #[.slice p13_0 q13_0 r13_0, .slice p13_1 q13_1 r13_1, .slice p13_2 q13_2 r13_2, .int .i64 ((dV (houseB xa0_0 xa0_1 xa0_2 ya0_0 ya0_1 ya0_2 ya0_3) ya0_0)), .int .i64 ((dV (houseB xa0_0 xa0_1 xa0_2 ya0_0 ya0_1 ya0_2 ya0_3) ya0_1)), .int .i64 ((dV (houseB xa0_0 xa0_1 xa0_2 ya0_0 ya0_1 ya0_2 ya0_3) ya0_2)), .int .i64 ((dV (houseB xa0_0 xa0_1 xa0_2 ya0_0 ya0_1 ya0_2 ya0_3) ya0_3)), .string ⟨#[]⟩, .string ⟨#[]⟩, .int .i64 (0)] 41)).cell (j := 8) (v := .string ⟨#[]⟩) rfl
  have kg0_9 := (Bxg0.out.alloc (.cells #[.slice p13_0 q13_0 r13_0, .slice p13_1 q13_1 r13_1, .slice p13_2 q13_2 r13_2, .int .i64 ((dV (houseB xa0_0 xa0_1 xa0_2 ya0_0 ya0_1 ya0_2 ya0_3) ya0_0)), .int .i64 ((dV (houseB xa0_0 xa0_1 xa0_2 ya0_0 ya0_1 ya0_2 ya0_3) ya0_1)), .int .i64 ((dV (houseB xa0_0 xa0_1 xa0_2 ya0_0 ya0_1 ya0_2 ya0_3) ya0_2)), .int .i64 ((dV (houseB xa0_0 xa0_1 xa0_2 ya0_0 ya0_1 ya0_2 ya0_3) ya0_3)), .string ⟨#[]⟩, .string ⟨#[]⟩, .int .i64 (0)] 41)).cell (j := 9) (v := .int .i64 (0)) rfl
  have hFx := hF.alloc (.cells #[.slice p13_0 q13_0 r13_0, .slice p13_1 q13_1 r13_1, .slice p13_2 q13_2 r13_2, .int .i64 ((dV (houseB xa0_0 xa0_1 xa0_2 ya0_0 ya0_1 ya0_2 ya0_3) ya0_0)), .int .i64 ((dV (houseB xa0_0 xa0_1 xa0_2 ya0_0 ya0_1 ya0_2 ya0_3) ya0_1)), .int .i64 ((dV (houseB xa0_0 xa0_1 xa0_2 ya0_0 ya0_1 ya0_2 ya0_3) ya0_2)), .int .i64 ((dV (houseB xa0_0 xa0_1 xa0_2 ya0_0 ya0_1 ya0_2 ya0_3) ya0_3)), .string ⟨#[]⟩, .string ⟨#[]⟩, .int .i64 (0)] 41)
  go_wp2_with fail
  clear kaH_0 kaH_1 kaH_2 kaH_3 kaH_4 kaH_5 kaH_6 kw0_0 kw0_1 kw0_2 kw0_3 kw0_4 kw0_5 kw0_6 kw0_7 kw0_8 kw0_9 kg0_0 kg0_1 kg0_2 kg0_3 kg0_4 kg0_5 kg0_6 kg0_7 kg0_8 kg0_9
  refine (eqConsole_same _ _ _ _ _ _ _ _ _ _ _ _ _ _ _ _ _ _ _ _ _ _ _ _ _ _ (o13_0.fr ((Fr.refl _).alloc _)).sl (o13_1.fr ((Fr.refl _).alloc _)).sl (o13_2.fr ((Fr.refl _).alloc _)).sl (o2_0.fr ((Fr.refl _).alloc _)).sl (o2_1.fr ((Fr.refl _).alloc _)).sl (o2_2.fr ((Fr.refl _).alloc _)).sl).mono ?_
  rintro e w14 ⟨rfl, f14⟩
  have Bxh0 := Lib.hid ((Blk.new w13 #[.slice p13_0 q13_0 r13_0, .slice p13_1 q13_1 r13_1, .slice p13_2 q13_2 r13_2, .int .i64 ((dV (houseB xa0_0 xa0_1 xa0_2 ya0_0 ya0_1 ya0_2 ya0_3) ya0_0)), .int .i64 ((dV (houseB xa0_0 xa0_1 xa0_2 ya0_0 ya0_1 ya0_2 ya0_3) ya0_1)), .int .i64 ((dV (houseB xa0_0 xa0_1 xa0_2 ya0_0 ya0_1 ya0_2 ya0_3) ya0_2)), .int .i64 ((dV (houseB xa0_0 xa0_1 xa0_2 ya0_0 ya0_1 ya0_2 ya0_3) ya0_3)), .string ⟨#[]⟩, .string ⟨#[]⟩, .int .i64 (0)] 41).fr f14)
  have fx14 := ((Fr.refl _).alloc (.cells #[.slice p13_0 q13_0 r13_0, .slice p13_1 q13_1 r13_1, .slice p13_2 q13_2 r13_2, .int .i64 ((dV (houseB xa0_0 xa0_1 xa0_2 ya0_0 ya0_1 ya0_2 ya0_3) ya0_0)), .int .i64 ((dV (houseB xa0_0 xa0_1 xa0_2 ya0_0 ya0_1 ya0_2 ya0_3) ya0_1)), .int .i64 ((dV (houseB xa0_0 xa0_1 xa0_2 ya0_0 ya0_1 ya0_2 ya0_3) ya0_2)), .int .i64 ((dV (houseB xa0_0 xa0_1 xa0_2 ya0_0 ya0_1 ya0_2 ya0_3) ya0_3)), .string ⟨#[]⟩, .string ⟨#[]⟩, .int .i64 (0)] 41)).trans f14
  have nh0 := Bxh0.out.lt
  have ha14 : w13.heap.size + 1 ≤ (w13.alloc (.cells #[.slice p13_0 q13_0 r13_0, .slice p13_1 q13_1 r13_1, .slice p13_2 q13_2 r13_2, .int .i64 ((dV (houseB xa0_0 xa0_1 xa0_2 ya0_0 ya0_1 ya0_2 ya0_3) ya0_0)), .int .i64 ((dV (houseB xa0_0 xa0_1 xa0_2 ya0_0 ya0_1 ya0_2 ya0_3) ya0_1)), .int .i64 ((dV (houseB xa0_0 xa0_1 xa0_2 ya0_0 ya0_1 ya0_2 ya0_3) ya0_2)), .int .i64 ((dV (houseB xa0_0 xa0_1 xa0_2 ya0_0 ya0_1 ya0_2 ya0_3) ya0_3)), .string ⟨#[]⟩, .string ⟨#[]⟩, .int .i64 (0)] 41)).heap.size ∧ (w13.alloc (.cells #[.slice p13_0 q13_0 r13_0, .slice p13_1 q13_1 r13_1, .slice p13_2 q13_2 r13_2, .int .i64 ((dV (houseB xa0_0 xa0_1 xa0_2 ya0_0 ya0_1 ya0_2 ya0_3) ya0_0)), .int .i64 ((dV (houseB xa0_0 xa0_1 xa0_2 ya0_0 ya0_1 ya0_2 ya0_3) ya0_1)), .int .i64 ((dV (houseB xa0_0 xa0_1 xa0_2 ya0_0 ya0_1 ya0_2 ya0_3) ya0_2)), .int .i64 ((dV (houseB xa0_0 xa0_1 xa0_2 ya0_0 ya0_1 ya0_2 ya0_3) ya0_3)), .string ⟨#[]⟩, .string ⟨#[]⟩, .int .i64 (0)] 41)).heap.size ≤ w13.heap.size + 1 := by simp
  have za14 := f14.size
  clear f14; have f14 := fx14; clear fx14
  replace BxaH := Lib.hid (BxaH.out.fr f14)
  replace Bxw0 := Lib.hid (Bxw0.out.fr f14)
  replace Bxx0 := Lib.hid (Bxx0.out.fr f14)
  replace Bxg0 := Lib.hid (Bxg0.out.fr f14)
  replace o1_0 := o1_0.fr f14
  replace o1_1 := o1_1.fr f14
  replace o1_2 := o1_2.fr f14
  replace o2_0 := o2_0.fr f14
  replace o2_1 := o2_1.fr f14
  replace o2_2 := o2_2.fr f14
  replace o3_0 := o3_0.fr f14
  replace o3_1 := o3_1.fr f14
  replace o3_2 := o3_2.fr f14
  replace o4_0 := o4_0.fr f14
  replace o4_1 := o4_1.fr f14
  replace o4_2 := o4_2.fr f14
  replace o12_0 := o12_0.fr f14
  replace o12_1 := o12_1.fr f14
  replace o12_2 := o12_2.fr f14
  replace o13_0 := o13_0.fr f14
  replace o13_1 := o13_1.fr f14
  replace o13_2 := o13_2.fr f14
  have z14 := f14.size
  replace hF := hF.trans f14
  clear f14
  have kw0_0 := Bxw0.out.cell (j := 0) (v := .slice p2_0 q2_0 r2_0) rfl
  have kw0_1 := Bxw0.out.cell (j := 1) (v := .slice p2_1 q2_1 r2_1) rfl
  have kw0_2 := Bxw0.out.cell (j := 2) (v := .slice p2_2 q2_2 r2_2) rfl
  have kw0_3 := Bxw0.out.cell (j := 3) (v := .int .i64 ((dV (houseB xa0_0 xa0_1 xa0_2 ya0_0 ya0_1 ya0_2 ya0_3) ya0_0))) rfl
  have kw0_4 := Bxw0.out.cell (j := 4) (v := .int .i64 ((dV (houseB xa0_0 xa0_1 xa0_2 ya0_0 ya0_1 ya0_2 ya0_3) ya0_1))) rfl
  have kw0_5 := Bxw0.out.cell (j := 5) (v := .int .i64 ((dV (houseB xa0_0 xa0_1 xa0_2 ya0_0 ya0_1 ya0_2 ya0_3) ya0_2))) rfl
  have kw0_6 := Bxw0.out.cell (j := 6) (v := .int .i64 ((dV (houseB xa0_0 xa0_1 xa0_2 ya0_0 ya0_1 ya0_2 ya0_3) ya0_3))) rfl
  have kw0_7 := Bxw0.out.cell (j := 7) (v := .string ⟨#[]⟩) rfl
  have kw0_8 := Bxw0.out.cell (j := 8) (v := .string ⟨#[]⟩) rfl
  have kw0_9 := Bxw0.out.cell (j := 9) (v := .int .i64 (0)) rfl
  have kg0_0 := Bxg0.out.cell (j := 0) (v := .slice p4_0 q4_0 r4_0) rfl
  have kg0_1 := Bxg0.out.cell (j := 1) (v := .slice p4_1 q4_1 r4_1) rfl
  have kg0_2 := Bxg0.out.cell (j := 2) (v := .slice p4_2 q4_2 r4_2) rfl
  have kg0_3 := Bxg0.out.cell (j := 3) (v := .int .i64 ((dV (houseB xa0_0 xa0_1 xa0_2 ya0_0 ya0_1 ya0_2 ya0_3) ya0_0))) rfl
  have kg0_4 := Bxg0.out.cell (j := 4) (v := .int .i64 ((dV (houseB xa0_0 xa0_1 xa0_2 ya0_0 ya0_1 ya0_2 ya0_3) ya0_1))) rfl
  have kg0_5 := Bxg0.out.cell (j := 5) (v := .int .i64 ((dV (houseB xa0_0 xa0_1 xa0_2 ya0_0 ya0_1 ya0_2 ya0_3) ya0_2))) rfl
  have kg0_6 := Bxg0.out.cell (j := 6) (v := .int .i64 ((dV (houseB xa0_0 xa0_1 xa0_2 ya0_0 ya0_1 ya0_2 ya0_3) ya0_3))) rfl
  have kg0_7 := Bxg0.out.cell (j := 7) (v := .string ⟨#[]⟩) rfl
  have kg0_8 := Bxg0.out.cell (j := 8) (v := .string ⟨#[]⟩) rfl
  have kg0_9 := Bxg0.out.cell (j := 9) (v := .int .i64 (0)) rfl
  have kh0_0 := Bxh0.out.cell (j := 0) (v := .slice p13_0 q13_0 r13_0) rfl
  have kh0_1 := Bxh0.out.cell (j := 1) (v := .slice p13_1 q13_1 r13_1) rfl
  have kh0_2 := Bxh0.out.cell (j := 2) (v := .slice p13_2 q13_2 r13_2) rfl
  have kh0_3 := Bxh0.out.cell (j := 3) (v := .int .i64 ((dV (houseB xa0_0 xa0_1 xa0_2 ya0_0 ya0_1 ya0_2 ya0_3) ya0_0))) rfl
  have kh0_4 := Bxh0.out.cell (j := 4) (v := .int .i64 ((dV (houseB xa0_0 xa0_1 xa0_2 ya0_0 ya0_1 ya0_2 ya0_3) ya0_1))) rfl
  have kh0_5 := Bxh0.out.cell (j := 5) (v := .int .i64 ((dV (houseB xa0_0 xa0_1 xa0_2 ya0_0 ya0_1 ya0_2 ya0_3) ya0_2))) rfl
  have kh0_6 := Bxh0.out.cell (j := 6) (v := .int .i64 ((dV (houseB xa0_0 xa0_1 xa0_2 ya0_0 ya0_1 ya0_2 ya0_3) ya0_3))) rfl
  have kh0_7 := Bxh0.out.cell (j := 7) (v := .string ⟨#[]⟩) rfl
  have kh0_8 := Bxh0.out.cell (j := 8) (v := .string ⟨#[]⟩) rfl
  have kh0_9 := Bxh0.out.cell (j := 9) (v := .int .i64 (0)) rfl
  clear hFx
  go_wp2_with fail
  clear kw0_0 kw0_1 kw0_2 kw0_3 kw0_4 kw0_5 kw0_6 kw0_7 kw0_8 kw0_9 kg0_0 kg0_1 kg0_2 kg0_3 kg0_4 kg0_5 kg0_6 kg0_7 kg0_8 kg0_9 kh0_0 kh0_1 kh0_2 kh0_3 kh0_4 kh0_5 kh0_6 kh0_7 kh0_8 kh0_9
  refine (heldConsole_any _ _ _ _ _ _ _ _ _ _ _ _ _ _ 1 o4_0.sl o4_1.sl o4_2.sl (by omega) (by omega) (by omega) (by omega) (by omega)).mono ?_
  rintro e w15 ⟨rfl, f15⟩
  replace BxaH := Lib.hid (BxaH.out.fr f15)
  replace Bxw0 := Lib.hid (Bxw0.out.fr f15)
  replace Bxx0 := Lib.hid (Bxx0.out.fr f15)
  replace Bxg0 := Lib.hid (Bxg0.out.fr f15)
  replace Bxh0 := Lib.hid (Bxh0.out.fr f15)
  replace o1_0 := o1_0.fr f15
  replace o1_1 := o1_1.fr f15
  replace o1_2 := o1_2.fr f15
  replace o2_0 := o2_0.fr f15
  replace o2_1 := o2_1.fr f15
  replace o2_2 := o2_2.fr f15
  replace o3_0 := o3_0.fr f15
  replace o3_1 := o3_1.fr f15
  replace o3_2 := o3_2.fr f15
  replace o4_0 := o4_0.fr f15
  replace o4_1 := o4_1.fr f15
  replace o4_2 := o4_2.fr f15
  replace o12_0 := o12_0.fr f15
  replace o12_1 := o12_1.fr f15
  replace o12_2 := o12_2.fr f15
  replace o13_0 := o13_0.fr f15
  replace o13_1 := o13_1.fr f15
  replace o13_2 := o13_2.fr f15
  have z15 := f15.size
  replace hF := hF.trans f15
  clear f15
  have kg0_0 := Bxg0.out.cell (j := 0) (v := .slice p4_0 q4_0 r4_0) rfl
  have kg0_1 := Bxg0.out.cell (j := 1) (v := .slice p4_1 q4_1 r4_1) rfl
  have kg0_2 := Bxg0.out.cell (j := 2) (v := .slice p4_2 q4_2 r4_2) rfl
  have kg0_3 := Bxg0.out.cell (j := 3) (v := .int .i64 ((dV (houseB xa0_0 xa0_1 xa0_2 ya0_0 ya0_1 ya0_2 ya0_3) ya0_0))) rfl
  have kg0_4 := Bxg0.out.cell (j := 4) (v := .int .i64 ((dV (houseB xa0_0 xa0_1 xa0_2 ya0_0 ya0_1 ya0_2 ya0_3) ya0_1))) rfl
  have kg0_5 := Bxg0.out.cell (j := 5) (v := .int .i64 ((dV (houseB xa0_0 xa0_1 xa0_2 ya0_0 ya0_1 ya0_2 ya0_3) ya0_2))) rfl
  have kg0_6 := Bxg0.out.cell (j := 6) (v := .int .i64 ((dV (houseB xa0_0 xa0_1 xa0_2 ya0_0 ya0_1 ya0_2 ya0_3) ya0_3))) rfl
  have kg0_7 := Bxg0.out.cell (j := 7) (v := .string ⟨#[]⟩) rfl
  have kg0_8 := Bxg0.out.cell (j := 8) (v := .string ⟨#[]⟩) rfl
  have kg0_9 := Bxg0.out.cell (j := 9) (v := .int .i64 (0)) rfl
  go_wp2_with fail
  go_ret
  exact ⟨rfl, hF⟩
end Go.Proofs.Ytolnloeapbplkaa
