import Derived.Test.YtojipjjfndgbhaaDealLaw
import Derived.Test.YtojipjjfndgbhaaOpenS
import Derived.Deep.RegionHeld3
import Derived.Deep.DeepCutAuto
/- The walk of laws.FnExactDealHouse: the Go text returns true and writes to nothing that was there. -/
set_option linter.unusedVariables false
namespace Go.Proofs.Ytojipjjfndgbhaa
open Go.ChangeShapes Go.WideShapes Go.ChangeAt Go.RowKit

set_option maxRecDepth 100000 in
set_option maxHeartbeats 4000000 in
theorem walk_FnExactDealHouse (pa0_0 : Option Addr) (qa0_0 ra0_0 : Nat) (xa0_0 : List Int) (pa0_1 : Option Addr) (qa0_1 ra0_1 : Nat) (xa0_1 : List Int) (pa0_2 : Option Addr) (qa0_2 ra0_2 : Nat) (xa0_2 : List Int) (ya0_0 : Int) (ya0_1 : Int) (ya0_2 : Int) (ya0_3 : Int) (ya1_0 : Int) (ya1_1 : Int) (ya1_2 : Int) (w : World) (sa0_0 : SL w pa0_0 qa0_0 ra0_0 xa0_0) (sa0_1 : SL w pa0_1 qa0_1 ra0_1 xa0_1) (sa0_2 : SL w pa0_2 qa0_2 ra0_2 xa0_2) (ia0_0 : I64 ya0_0) (ia0_1 : I64 ya0_1) (ia0_2 : I64 ya0_2) (ia0_3 : I64 ya0_3) (ia1_0 : I64 ya1_0) (ia1_1 : I64 ya1_1) (ia1_2 : I64 ya1_2) :
    Calls Try.prog 10 #[.agg #[.slice pa0_0 qa0_0 ra0_0, .slice pa0_1 qa0_1 ra0_1, .slice pa0_2 qa0_2 ra0_2, .int .i64 ya0_0, .int .i64 ya0_1, .int .i64 ya0_2, .int .i64 ya0_3], .agg #[.int .i64 ya1_0, .int .i64 ya1_1, .int .i64 ya1_2]] w fun e w' => e = .returned (.bool true) ∧ Fr w w' := by
  have hF0 : Fr w ((w.alloc (.cells #[.slice pa0_0 qa0_0 ra0_0, .slice pa0_1 qa0_1 ra0_1, .slice pa0_2 qa0_2 ra0_2, .int .i64 ya0_0, .int .i64 ya0_1, .int .i64 ya0_2, .int .i64 ya0_3] 26)).alloc (.cells #[.int .i64 ya1_0, .int .i64 ya1_1, .int .i64 ya1_2] 56)) := ((Fr.refl w).alloc _).alloc _
  have BxaH0 := (Blk.new w #[.slice pa0_0 qa0_0 ra0_0, .slice pa0_1 qa0_1 ra0_1, .slice pa0_2 qa0_2 ra0_2, .int .i64 ya0_0, .int .i64 ya0_1, .int .i64 ya0_2, .int .i64 ya0_3] 26).alloc (.cells #[.int .i64 ya1_0, .int .i64 ya1_1, .int .i64 ya1_2] 56)
  have BxaH := Lib.hid BxaH0; clear BxaH0
  have BxaD0 := Blk.new (w.alloc (.cells #[.slice pa0_0 qa0_0 ra0_0, .slice pa0_1 qa0_1 ra0_1, .slice pa0_2 qa0_2 ra0_2, .int .i64 ya0_0, .int .i64 ya0_1, .int .i64 ya0_2, .int .i64 ya0_3] 26)) #[.int .i64 ya1_0, .int .i64 ya1_1, .int .i64 ya1_2] 56
  simp only [World.size_alloc] at BxaD0
  have BxaD := Lib.hid BxaD0; clear BxaD0
  have na0_0 : qa0_0 ≤ 9223372036854775807 := by have := sa0_0.le; have := sa0_0.mx; omega
  have na0_1 : qa0_1 ≤ 9223372036854775807 := by have := sa0_1.le; have := sa0_1.mx; omega
  have na0_2 : qa0_2 ≤ 9223372036854775807 := by have := sa0_2.le; have := sa0_2.mx; omega
  by_cases hz0 : szH qa0_0 qa0_1 qa0_2 1048576 < 0
  · go_enter Try.func10, Try.ntmps10
    go_wp2_with fail
    refine (szHouse_any _ _ _ _ _ _ _ _ _ _ _ _ _ _ _ na0_0 na0_1 na0_2 (by omega) (by omega)).mono ?_
    rintro e v0 ⟨rfl, hv0⟩
    have hF1 := hF0.trans hv0
    go_wp2
    go_ret
    exact ⟨rfl, hF1⟩
  have hr0 := szH_rng qa0_0 qa0_1 qa0_2 1048576 (by omega)
  have hf0 := szH_fit hz0
  go_enter Try.func10, Try.ntmps10
  go_wp2_with fail
  refine (szHouse_any _ _ _ _ _ _ _ _ _ _ _ _ _ _ _ na0_0 na0_1 na0_2 (by omega) (by omega)).mono ?_
  rintro e v0 ⟨rfl, hv0⟩
  have hF1 := hF0.trans hv0
  replace BxaH := Lib.hid (BxaH.out.fr hv0)
  replace BxaD := Lib.hid (BxaD.out.fr hv0)
  have hF := hF1
  have zz := hF.size
  have naH := BxaH.out.lt
  have naD := BxaD.out.lt
  have HZ0 := Lib.hid hf0.2.2.2
  obtain ⟨hb0_0, hb0_1, hb0_2, -⟩ := hf0
  have kaH_0 := BxaH.out.cell (j := 0) (v := .slice pa0_0 qa0_0 ra0_0) rfl
  have kaH_1 := BxaH.out.cell (j := 1) (v := .slice pa0_1 qa0_1 ra0_1) rfl
  have kaH_2 := BxaH.out.cell (j := 2) (v := .slice pa0_2 qa0_2 ra0_2) rfl
  have kaH_3 := BxaH.out.cell (j := 3) (v := .int .i64 ya0_0) rfl
  have kaH_4 := BxaH.out.cell (j := 4) (v := .int .i64 ya0_1) rfl
  have kaH_5 := BxaH.out.cell (j := 5) (v := .int .i64 ya0_2) rfl
  have kaH_6 := BxaH.out.cell (j := 6) (v := .int .i64 ya0_3) rfl
  have kaD_0 := BxaD.out.cell (j := 0) (v := .int .i64 ya1_0) rfl
  have kaD_1 := BxaD.out.cell (j := 1) (v := .int .i64 ya1_1) rfl
  have kaD_2 := BxaD.out.cell (j := 2) (v := .int .i64 ya1_2) rfl
  go_upto_region 5 with fail
  clear kaH_0 kaH_1 kaH_2 kaH_3 kaH_4 kaH_5 kaH_6 kaD_0 kaD_1 kaD_2
  have kaH_0 := BxaH.out.cell (j := 0) (v := .slice pa0_0 qa0_0 ra0_0) rfl
  have kaH_1 := BxaH.out.cell (j := 1) (v := .slice pa0_1 qa0_1 ra0_1) rfl
  have kaH_2 := BxaH.out.cell (j := 2) (v := .slice pa0_2 qa0_2 ra0_2) rfl
  have kaH_3 := BxaH.out.cell (j := 3) (v := .int .i64 ya0_0) rfl
  have kaH_4 := BxaH.out.cell (j := 4) (v := .int .i64 ya0_1) rfl
  have kaH_5 := BxaH.out.cell (j := 5) (v := .int .i64 ya0_2) rfl
  have kaH_6 := BxaH.out.cell (j := 6) (v := .int .i64 ya0_3) rfl
  have kaD_0 := BxaD.out.cell (j := 0) (v := .int .i64 ya1_0) rfl
  have kaD_1 := BxaD.out.cell (j := 1) (v := .int .i64 ya1_1) rfl
  have kaD_2 := BxaD.out.cell (j := 2) (v := .int .i64 ya1_2) rfl
  have ta0_0 := sa0_0.fr hF
  have ta0_1 := sa0_1.fr hF
  have ta0_2 := sa0_2.fr hF
  go_cut [6, 7] (fun s6 s7 wx => ∃ (gw0 Lw0 M3_0 M3_1 Hw0 : Nat) (p3_0 : Option Addr) (q3_0 r3_0 : Nat) (p3_1 : Option Addr) (q3_1 r3_1 : Nat) (p3_2 : Option Addr) (q3_2 r3_2 : Nat), s6 = .pointer (some ⟨gw0, 0, none⟩) ∧ s7 = .bool ((dealB xa0_0 xa0_1 xa0_2 ya0_0 ya0_1 ya0_2 ya0_3 ya1_0 ya1_1 ya1_2)) ∧ Blk wx gw0 #[.slice p3_0 q3_0 r3_0, .slice p3_1 q3_1 r3_1, .slice p3_2 q3_2 r3_2, .int .i64 ((dV (dealB xa0_0 xa0_1 xa0_2 ya0_0 ya0_1 ya0_2 ya0_3 ya1_0 ya1_1 ya1_2) (dAt ya0_0 ya1_0 ya1_1))), .int .i64 ((dV (dealB xa0_0 xa0_1 xa0_2 ya0_0 ya0_1 ya0_2 ya0_3 ya1_0 ya1_1 ya1_2) (dSt ya0_1 ya1_0 ya1_1))), .int .i64 ((dV (dealB xa0_0 xa0_1 xa0_2 ya0_0 ya0_1 ya0_2 ya0_3 ya1_0 ya1_1 ya1_2) (dPu xa0_2 ya0_0 ya0_1 ya0_2 ya1_0 ya1_1))), .int .i64 ((dV (dealB xa0_0 xa0_1 xa0_2 ya0_0 ya0_1 ya0_2 ya0_3 ya1_0 ya1_1 ya1_2) (ya0_3 + 1)))] 31 ∧ Own Lw0 wx p3_0 q3_0 r3_0 ((nhV (dealB xa0_0 xa0_1 xa0_2 ya0_0 ya0_1 ya0_2 ya0_3 ya1_0 ya1_1 ya1_2) xa0_0)) ∧ Own M3_0 wx p3_1 q3_1 r3_1 ((nhV (dealB xa0_0 xa0_1 xa0_2 ya0_0 ya0_1 ya0_2 ya0_3 ya1_0 ya1_1 ya1_2) (dW xa0_1 ya1_0 ya1_1 ya1_2))) ∧ Own M3_1 wx p3_2 q3_2 r3_2 ((nhV (dealB xa0_0 xa0_1 xa0_2 ya0_0 ya0_1 ya0_2 ya0_3 ya1_0 ya1_1 ya1_2) (dX xa0_2 ya1_0 ya1_1 ya1_2))) ∧ Within p3_0 Lw0 M3_0 ∧ Within p3_1 M3_0 M3_1 ∧ Within p3_2 M3_1 Hw0 ∧ v0.heap.size ≤ Lw0 ∧ Lw0 ≤ M3_0 ∧ M3_0 ≤ M3_1 ∧ M3_1 ≤ Hw0 ∧ Hw0 ≤ wx.heap.size ∧ v0.heap.size ≤ gw0 ∧ gw0 < wx.heap.size ∧ (gw0 < Lw0 ∨ Hw0 ≤ gw0) ∧ Fr v0 wx ∧ q3_0 ≤ 1048576 ∧ q3_1 ≤ 1048576 ∧ q3_2 ≤ 1048576)
  case first =>
    go_region_held3 (fun w' => w'.cell? ⟨w.heap.size, 0, none⟩ = some (.slice pa0_0 qa0_0 ra0_0) ∧ w'.cell? ⟨w.heap.size, 1, none⟩ = some (.slice pa0_1 qa0_1 ra0_1) ∧ w'.cell? ⟨w.heap.size, 2, none⟩ = some (.slice pa0_2 qa0_2 ra0_2) ∧ w'.cell? ⟨w.heap.size, 3, none⟩ = some (.int .i64 ya0_0) ∧ w'.cell? ⟨w.heap.size, 4, none⟩ = some (.int .i64 ya0_1) ∧ w'.cell? ⟨w.heap.size, 5, none⟩ = some (.int .i64 ya0_2) ∧ w'.cell? ⟨w.heap.size, 6, none⟩ = some (.int .i64 ya0_3) ∧ w'.cell? ⟨w.heap.size + 1, 0, none⟩ = some (.int .i64 ya1_0) ∧ w'.cell? ⟨w.heap.size + 1, 1, none⟩ = some (.int .i64 ya1_1) ∧ w'.cell? ⟨w.heap.size + 1, 2, none⟩ = some (.int .i64 ya1_2))
      (first | (with_reducible exact ⟨F3.keep kaH_0, F3.keep kaH_1, F3.keep kaH_2, F3.keep kaH_3, F3.keep kaH_4, F3.keep kaH_5, F3.keep kaH_6, F3.keep kaD_0, F3.keep kaD_1, F3.keep kaD_2⟩) | (with_reducible exact ⟨F2.keep kaH_0, F2.keep kaH_1, F2.keep kaH_2, F2.keep kaH_3, F2.keep kaH_4, F2.keep kaH_5, F2.keep kaH_6, F2.keep kaD_0, F2.keep kaD_1, F2.keep kaD_2⟩) | (with_reducible exact ⟨F1.keep kaH_0, F1.keep kaH_1, F1.keep kaH_2, F1.keep kaH_3, F1.keep kaH_4, F1.keep kaH_5, F1.keep kaH_6, F1.keep kaD_0, F1.keep kaD_1, F1.keep kaD_2⟩) | (with_reducible exact ⟨(F3.alloc _).keep kaH_0, (F3.alloc _).keep kaH_1, (F3.alloc _).keep kaH_2, (F3.alloc _).keep kaH_3, (F3.alloc _).keep kaH_4, (F3.alloc _).keep kaH_5, (F3.alloc _).keep kaH_6, (F3.alloc _).keep kaD_0, (F3.alloc _).keep kaD_1, (F3.alloc _).keep kaD_2⟩) | (with_reducible exact ⟨(F2.alloc _).keep kaH_0, (F2.alloc _).keep kaH_1, (F2.alloc _).keep kaH_2, (F2.alloc _).keep kaH_3, (F2.alloc _).keep kaH_4, (F2.alloc _).keep kaH_5, (F2.alloc _).keep kaH_6, (F2.alloc _).keep kaD_0, (F2.alloc _).keep kaD_1, (F2.alloc _).keep kaD_2⟩) | (with_reducible exact ⟨(F1.alloc _).keep kaH_0, (F1.alloc _).keep kaH_1, (F1.alloc _).keep kaH_2, (F1.alloc _).keep kaH_3, (F1.alloc _).keep kaH_4, (F1.alloc _).keep kaH_5, (F1.alloc _).keep kaH_6, (F1.alloc _).keep kaD_0, (F1.alloc _).keep kaD_1, (F1.alloc _).keep kaD_2⟩) | ((with_reducible refine ⟨(cell7 _ _ _ _ _ _ _ ?_).trans (F3.keep kaH_0), (cell7 _ _ _ _ _ _ _ ?_).trans (F3.keep kaH_1), (cell7 _ _ _ _ _ _ _ ?_).trans (F3.keep kaH_2), (cell7 _ _ _ _ _ _ _ ?_).trans (F3.keep kaH_3), (cell7 _ _ _ _ _ _ _ ?_).trans (F3.keep kaH_4), (cell7 _ _ _ _ _ _ _ ?_).trans (F3.keep kaH_5), (cell7 _ _ _ _ _ _ _ ?_).trans (F3.keep kaH_6), (cell7 _ _ _ _ _ _ _ ?_).trans (F3.keep kaD_0), (cell7 _ _ _ _ _ _ _ ?_).trans (F3.keep kaD_1), (cell7 _ _ _ _ _ _ _ ?_).trans (F3.keep kaD_2)⟩) <;> omega) | go_keep)
      (first
        | (go_at_call 17; refine (toHouse_any _ _ _ _ _ _ _ _ _ _ _ _ _ _ _ _ _ (ta0_0.fr (by first | exact (Fr.refl v0).drew' 1 | exact ((Fr.refl v0).alloc _).drew' 1)) (ta0_1.fr (by first | exact (Fr.refl v0).drew' 1 | exact ((Fr.refl v0).alloc _).drew' 1)) (ta0_2.fr (by first | exact (Fr.refl v0).drew' 1 | exact ((Fr.refl v0).alloc _).drew' 1)) (by omega) (by omega) (by omega)).mono ?_; rintro e w1 ⟨p1_0, q1_0, r1_0, p1_1, q1_1, r1_1, p1_2, q1_2, r1_2, M1_0, M1_1, rfl, o1_0, o1_1, o1_2, l1_0, l1_1, y1_0, y1_1, y1_2, f1, e1_0, e1_1, e1_2⟩; have F1 : Fr v0 w1 := (by first | exact ((Fr.refl v0).drew' 1).trans f1 | exact (((Fr.refl v0).alloc _).drew' 1).trans f1); have Y1 := F1.size)
        | (go_at_call 43; refine (toDeal_any _ _ _ _).mono ?_; rintro e w2 ⟨rfl, f2⟩; have F2 : Fr v0 w2 := (by first | exact (F1).trans f2 | exact (F1.alloc _).trans f2); have Y2 := F2.size)
        | (go_at_call 42; refine (spec_DealHouse_any _ _ _ _ _ _ _ _ _ _ _ _ _ _ _ _ _ _ _ _ (by first | exact ((o1_0.fr ((Fr.refl _).alloc _)).fr f2).sl | exact ((o1_0.fr f2).fr ((Fr.refl _).alloc _)).sl | exact (o1_0.fr f2).sl) (by first | exact ((o1_1.fr ((Fr.refl _).alloc _)).fr f2).sl | exact ((o1_1.fr f2).fr ((Fr.refl _).alloc _)).sl | exact (o1_1.fr f2).sl) (by first | exact ((o1_2.fr ((Fr.refl _).alloc _)).fr f2).sl | exact ((o1_2.fr f2).fr ((Fr.refl _).alloc _)).sl | exact (o1_2.fr f2).sl) ia0_0 ia0_1 ia0_2 ia0_3 ia1_0 ia1_1 ia1_2).mono ?_; rintro e w3 ⟨p3_0, q3_0, r3_0, p3_1, q3_1, r3_1, p3_2, q3_2, r3_2, M3_0, M3_1, rfl, o3_0, o3_1, o3_2, l3_0, l3_1, y3_0, y3_1, y3_2, f3, e3_0, e3_1, e3_2⟩; have F3 : Fr v0 w3 := (by first | exact (F2).trans f3 | exact (F2.alloc _).trans f3); (try (have zb := (((((Blk.new v0 #[.slice none 0 0, .slice none 0 0, .slice none 0 0, .int .i64 0, .int .i64 0, .int .i64 0, .int .i64 0] 31).fr (Fr.drewN _ 1)).fr f1).fr f2).fr f3); have zc0 := zb.cell (j := 0) rfl; have zc1 := zb.cell (j := 1) rfl; have zc2 := zb.cell (j := 2) rfl; have zc3 := zb.cell (j := 3) rfl; have zc4 := zb.cell (j := 4) rfl; have zc5 := zb.cell (j := 5) rfl; have zc6 := zb.cell (j := 6) rfl; have zf0 := zb.free 0; have zf1 := zb.free 1; have zf2 := zb.free 2; have zf3 := zb.free 3; have zf4 := zb.free 4; have zf5 := zb.free 5; have zf6 := zb.free 6; clear zb)); (try (have zb := (((Blk.new w1 #[.slice none 0 0, .slice none 0 0, .slice none 0 0, .int .i64 0, .int .i64 0, .int .i64 0, .int .i64 0] 31).fr f2).fr f3); have zc0 := zb.cell (j := 0) rfl; have zc1 := zb.cell (j := 1) rfl; have zc2 := zb.cell (j := 2) rfl; have zc3 := zb.cell (j := 3) rfl; have zc4 := zb.cell (j := 4) rfl; have zc5 := zb.cell (j := 5) rfl; have zc6 := zb.cell (j := 6) rfl; have zf0 := zb.free 0; have zf1 := zb.free 1; have zf2 := zb.free 2; have zf3 := zb.free 3; have zf4 := zb.free 4; have zf5 := zb.free 5; have zf6 := zb.free 6; clear zb)); (try (have zb := ((Blk.new w2 #[.slice none 0 0, .slice none 0 0, .slice none 0 0, .int .i64 0, .int .i64 0, .int .i64 0, .int .i64 0] 31).fr f3); have zc0 := zb.cell (j := 0) rfl; have zc1 := zb.cell (j := 1) rfl; have zc2 := zb.cell (j := 2) rfl; have zc3 := zb.cell (j := 3) rfl; have zc4 := zb.cell (j := 4) rfl; have zc5 := zb.cell (j := 5) rfl; have zc6 := zb.cell (j := 6) rfl; have zf0 := zb.free 0; have zf1 := zb.free 1; have zf2 := zb.free 2; have zf3 := zb.free 3; have zf4 := zb.free 4; have zf5 := zb.free 5; have zf6 := zb.free 6; clear zb))))
    all_goals
      go_wp2_with fail
      go_meet
      have zs1 := f1.size
      try simp at zs1
      have zs2 := f2.size
      try simp at zs2
      have zs3 := f3.size
      try simp at zs3
      have zz1 := f3.size
      have zz2 := F3.size
      have zz3 := F2.size
      try simp only [World.size_alloc] at zz1 zz2 y3_0 l3_0
    · exact ⟨w3.heap.size, w2.heap.size, _, _, w3.heap.size, _, _, _, _, _, _, _, _, _, rfl, rfl, (Blk.new w3 _ 31), ((o3_0.mono (B' := w2.heap.size) (by first | exact Nat.le_refl _ | (simp; done) | (simp; omega))).fr ((Fr.refl _).alloc _)), (o3_1.fr ((Fr.refl _).alloc _)), (o3_2.fr ((Fr.refl _).alloc _)), (fun k hk => by have := l3_0 k hk; first | omega | (simp at this; omega)), l3_1, o3_2.within, (by first | omega | (simp; done) | (simp; omega)), (by first | omega | (simp; done) | (simp; omega)), (by first | omega | (simp; done) | (simp; omega)), (by first | omega | (simp; done) | (simp; omega)), (by first | omega | (simp; done) | (simp; omega)), (by first | omega | (simp; done) | (simp; omega)), (by first | omega | (simp; done) | (simp; omega)), (.inr (Nat.le_refl _)), (F3.alloc _), e3_0, e3_1, e3_2⟩
    · exact ⟨w2.heap.size, w2.heap.size + 1, _, _, w3.heap.size, _, _, _, _, _, _, _, _, _, rfl, rfl, (((Blk.new w2 _ 31).fr f3).set7 (.slice p3_0 q3_0 r3_0) (.slice p3_1 q3_1 r3_1) (.slice p3_2 q3_2 r3_2) (.int .i64 ((dV (dealB xa0_0 xa0_1 xa0_2 ya0_0 ya0_1 ya0_2 ya0_3 ya1_0 ya1_1 ya1_2) (dAt ya0_0 ya1_0 ya1_1)))) (.int .i64 ((dV (dealB xa0_0 xa0_1 xa0_2 ya0_0 ya0_1 ya0_2 ya0_3 ya1_0 ya1_1 ya1_2) (dSt ya0_1 ya1_0 ya1_1)))) (.int .i64 ((dV (dealB xa0_0 xa0_1 xa0_2 ya0_0 ya0_1 ya0_2 ya0_3 ya1_0 ya1_1 ya1_2) (dPu xa0_2 ya0_0 ya0_1 ya0_2 ya1_0 ya1_1)))) (.int .i64 ((dV (dealB xa0_0 xa0_1 xa0_2 ya0_0 ya0_1 ya0_2 ya0_3 ya1_0 ya1_1 ya1_2) (ya0_3 + 1))))), ((o3_0.mono (B' := w2.heap.size + 1) (by first | exact Nat.le_refl _ | (simp; done) | (simp; omega))).set7 (by first | omega | (simp; done) | (simp; omega)) (.slice p3_0 q3_0 r3_0) (.slice p3_1 q3_1 r3_1) (.slice p3_2 q3_2 r3_2) (.int .i64 ((dV (dealB xa0_0 xa0_1 xa0_2 ya0_0 ya0_1 ya0_2 ya0_3 ya1_0 ya1_1 ya1_2) (dAt ya0_0 ya1_0 ya1_1)))) (.int .i64 ((dV (dealB xa0_0 xa0_1 xa0_2 ya0_0 ya0_1 ya0_2 ya0_3 ya1_0 ya1_1 ya1_2) (dSt ya0_1 ya1_0 ya1_1)))) (.int .i64 ((dV (dealB xa0_0 xa0_1 xa0_2 ya0_0 ya0_1 ya0_2 ya0_3 ya1_0 ya1_1 ya1_2) (dPu xa0_2 ya0_0 ya0_1 ya0_2 ya1_0 ya1_1)))) (.int .i64 ((dV (dealB xa0_0 xa0_1 xa0_2 ya0_0 ya0_1 ya0_2 ya0_3 ya1_0 ya1_1 ya1_2) (ya0_3 + 1))))), (o3_1.set7 (by first | omega | (simp; done) | (simp; omega)) (.slice p3_0 q3_0 r3_0) (.slice p3_1 q3_1 r3_1) (.slice p3_2 q3_2 r3_2) (.int .i64 ((dV (dealB xa0_0 xa0_1 xa0_2 ya0_0 ya0_1 ya0_2 ya0_3 ya1_0 ya1_1 ya1_2) (dAt ya0_0 ya1_0 ya1_1)))) (.int .i64 ((dV (dealB xa0_0 xa0_1 xa0_2 ya0_0 ya0_1 ya0_2 ya0_3 ya1_0 ya1_1 ya1_2) (dSt ya0_1 ya1_0 ya1_1)))) (.int .i64 ((dV (dealB xa0_0 xa0_1 xa0_2 ya0_0 ya0_1 ya0_2 ya0_3 ya1_0 ya1_1 ya1_2) (dPu xa0_2 ya0_0 ya0_1 ya0_2 ya1_0 ya1_1)))) (.int .i64 ((dV (dealB xa0_0 xa0_1 xa0_2 ya0_0 ya0_1 ya0_2 ya0_3 ya1_0 ya1_1 ya1_2) (ya0_3 + 1))))), (o3_2.set7 (by first | omega | (simp; done) | (simp; omega)) (.slice p3_0 q3_0 r3_0) (.slice p3_1 q3_1 r3_1) (.slice p3_2 q3_2 r3_2) (.int .i64 ((dV (dealB xa0_0 xa0_1 xa0_2 ya0_0 ya0_1 ya0_2 ya0_3 ya1_0 ya1_1 ya1_2) (dAt ya0_0 ya1_0 ya1_1)))) (.int .i64 ((dV (dealB xa0_0 xa0_1 xa0_2 ya0_0 ya0_1 ya0_2 ya0_3 ya1_0 ya1_1 ya1_2) (dSt ya0_1 ya1_0 ya1_1)))) (.int .i64 ((dV (dealB xa0_0 xa0_1 xa0_2 ya0_0 ya0_1 ya0_2 ya0_3 ya1_0 ya1_1 ya1_2) (dPu xa0_2 ya0_0 ya0_1 ya0_2 ya1_0 ya1_1)))) (.int .i64 ((dV (dealB xa0_0 xa0_1 xa0_2 ya0_0 ya0_1 ya0_2 ya0_3 ya1_0 ya1_1 ya1_2) (ya0_3 + 1))))), (fun k hk => by have := l3_0 k hk; first | omega | (simp at this; omega)), l3_1, o3_2.within, (by first | omega | (simp; done) | (simp; omega)), (by first | omega | (simp; done) | (simp; omega)), (by first | omega | (simp; done) | (simp; omega)), (by first | omega | (simp; done) | (simp; omega)), (by first | omega | (simp; done) | (simp; omega)), (by first | omega | (simp; done) | (simp; omega)), (by first | omega | (simp; done) | (simp; omega)), (.inl (by first | omega | (simp; done) | (simp; omega))), (F3.set7 (by first | omega | (simp; done) | (simp; omega)) (.slice p3_0 q3_0 r3_0) (.slice p3_1 q3_1 r3_1) (.slice p3_2 q3_2 r3_2) (.int .i64 ((dV (dealB xa0_0 xa0_1 xa0_2 ya0_0 ya0_1 ya0_2 ya0_3 ya1_0 ya1_1 ya1_2) (dAt ya0_0 ya1_0 ya1_1)))) (.int .i64 ((dV (dealB xa0_0 xa0_1 xa0_2 ya0_0 ya0_1 ya0_2 ya0_3 ya1_0 ya1_1 ya1_2) (dSt ya0_1 ya1_0 ya1_1)))) (.int .i64 ((dV (dealB xa0_0 xa0_1 xa0_2 ya0_0 ya0_1 ya0_2 ya0_3 ya1_0 ya1_1 ya1_2) (dPu xa0_2 ya0_0 ya0_1 ya0_2 ya1_0 ya1_1)))) (.int .i64 ((dV (dealB xa0_0 xa0_1 xa0_2 ya0_0 ya0_1 ya0_2 ya0_3 ya1_0 ya1_1 ya1_2) (ya0_3 + 1))))), e3_0, e3_1, e3_2⟩
    · exact ⟨w1.heap.size, w2.heap.size, _, _, w3.heap.size, _, _, _, _, _, _, _, _, _, rfl, rfl, ((((Blk.new w1 _ 31).fr f2).fr f3).set7 (.slice p3_0 q3_0 r3_0) (.slice p3_1 q3_1 r3_1) (.slice p3_2 q3_2 r3_2) (.int .i64 ((dV (dealB xa0_0 xa0_1 xa0_2 ya0_0 ya0_1 ya0_2 ya0_3 ya1_0 ya1_1 ya1_2) (dAt ya0_0 ya1_0 ya1_1)))) (.int .i64 ((dV (dealB xa0_0 xa0_1 xa0_2 ya0_0 ya0_1 ya0_2 ya0_3 ya1_0 ya1_1 ya1_2) (dSt ya0_1 ya1_0 ya1_1)))) (.int .i64 ((dV (dealB xa0_0 xa0_1 xa0_2 ya0_0 ya0_1 ya0_2 ya0_3 ya1_0 ya1_1 ya1_2) (dPu xa0_2 ya0_0 ya0_1 ya0_2 ya1_0 ya1_1)))) (.int .i64 ((dV (dealB xa0_0 xa0_1 xa0_2 ya0_0 ya0_1 ya0_2 ya0_3 ya1_0 ya1_1 ya1_2) (ya0_3 + 1))))), ((o3_0.mono (B' := w2.heap.size) (by first | exact Nat.le_refl _ | (simp; done) | (simp; omega))).set7 (by first | omega | (simp; done) | (simp; omega)) (.slice p3_0 q3_0 r3_0) (.slice p3_1 q3_1 r3_1) (.slice p3_2 q3_2 r3_2) (.int .i64 ((dV (dealB xa0_0 xa0_1 xa0_2 ya0_0 ya0_1 ya0_2 ya0_3 ya1_0 ya1_1 ya1_2) (dAt ya0_0 ya1_0 ya1_1)))) (.int .i64 ((dV (dealB xa0_0 xa0_1 xa0_2 ya0_0 ya0_1 ya0_2 ya0_3 ya1_0 ya1_1 ya1_2) (dSt ya0_1 ya1_0 ya1_1)))) (.int .i64 ((dV (dealB xa0_0 xa0_1 xa0_2 ya0_0 ya0_1 ya0_2 ya0_3 ya1_0 ya1_1 ya1_2) (dPu xa0_2 ya0_0 ya0_1 ya0_2 ya1_0 ya1_1)))) (.int .i64 ((dV (dealB xa0_0 xa0_1 xa0_2 ya0_0 ya0_1 ya0_2 ya0_3 ya1_0 ya1_1 ya1_2) (ya0_3 + 1))))), (o3_1.set7 (by first | omega | (simp; done) | (simp; omega)) (.slice p3_0 q3_0 r3_0) (.slice p3_1 q3_1 r3_1) (.slice p3_2 q3_2 r3_2) (.int .i64 ((dV (dealB xa0_0 xa0_1 xa0_2 ya0_0 ya0_1 ya0_2 ya0_3 ya1_0 ya1_1 ya1_2) (dAt ya0_0 ya1_0 ya1_1)))) (.int .i64 ((dV (dealB xa0_0 xa0_1 xa0_2 ya0_0 ya0_1 ya0_2 ya0_3 ya1_0 ya1_1 ya1_2) (dSt ya0_1 ya1_0 ya1_1)))) (.int .i64 ((dV (dealB xa0_0 xa0_1 xa0_2 ya0_0 ya0_1 ya0_2 ya0_3 ya1_0 ya1_1 ya1_2) (dPu xa0_2 ya0_0 ya0_1 ya0_2 ya1_0 ya1_1)))) (.int .i64 ((dV (dealB xa0_0 xa0_1 xa0_2 ya0_0 ya0_1 ya0_2 ya0_3 ya1_0 ya1_1 ya1_2) (ya0_3 + 1))))), (o3_2.set7 (by first | omega | (simp; done) | (simp; omega)) (.slice p3_0 q3_0 r3_0) (.slice p3_1 q3_1 r3_1) (.slice p3_2 q3_2 r3_2) (.int .i64 ((dV (dealB xa0_0 xa0_1 xa0_2 ya0_0 ya0_1 ya0_2 ya0_3 ya1_0 ya1_1 ya1_2) (dAt ya0_0 ya1_0 ya1_1)))) (.int .i64 ((dV (dealB xa0_0 xa0_1 xa0_2 ya0_0 ya0_1 ya0_2 ya0_3 ya1_0 ya1_1 ya1_2) (dSt ya0_1 ya1_0 ya1_1)))) (.int .i64 ((dV (dealB xa0_0 xa0_1 xa0_2 ya0_0 ya0_1 ya0_2 ya0_3 ya1_0 ya1_1 ya1_2) (dPu xa0_2 ya0_0 ya0_1 ya0_2 ya1_0 ya1_1)))) (.int .i64 ((dV (dealB xa0_0 xa0_1 xa0_2 ya0_0 ya0_1 ya0_2 ya0_3 ya1_0 ya1_1 ya1_2) (ya0_3 + 1))))), (fun k hk => by have := l3_0 k hk; first | omega | (simp at this; omega)), l3_1, o3_2.within, (by first | omega | (simp; done) | (simp; omega)), (by first | omega | (simp; done) | (simp; omega)), (by first | omega | (simp; done) | (simp; omega)), (by first | omega | (simp; done) | (simp; omega)), (by first | omega | (simp; done) | (simp; omega)), (by first | omega | (simp; done) | (simp; omega)), (by first | omega | (simp; done) | (simp; omega)), (.inl (by first | omega | (simp; done) | (simp; omega))), (F3.set7 (by first | omega | (simp; done) | (simp; omega)) (.slice p3_0 q3_0 r3_0) (.slice p3_1 q3_1 r3_1) (.slice p3_2 q3_2 r3_2) (.int .i64 ((dV (dealB xa0_0 xa0_1 xa0_2 ya0_0 ya0_1 ya0_2 ya0_3 ya1_0 ya1_1 ya1_2) (dAt ya0_0 ya1_0 ya1_1)))) (.int .i64 ((dV (dealB xa0_0 xa0_1 xa0_2 ya0_0 ya0_1 ya0_2 ya0_3 ya1_0 ya1_1 ya1_2) (dSt ya0_1 ya1_0 ya1_1)))) (.int .i64 ((dV (dealB xa0_0 xa0_1 xa0_2 ya0_0 ya0_1 ya0_2 ya0_3 ya1_0 ya1_1 ya1_2) (dPu xa0_2 ya0_0 ya0_1 ya0_2 ya1_0 ya1_1)))) (.int .i64 ((dV (dealB xa0_0 xa0_1 xa0_2 ya0_0 ya0_1 ya0_2 ya0_3 ya1_0 ya1_1 ya1_2) (ya0_3 + 1))))), e3_0, e3_1, e3_2⟩
    · exact ⟨v0.heap.size, w2.heap.size, _, _, w3.heap.size, _, _, _, _, _, _, _, _, _, rfl, rfl, ((((((Blk.new v0 _ 31).fr (Fr.drewN _ 1)).fr f1).fr f2).fr f3).set7 (.slice p3_0 q3_0 r3_0) (.slice p3_1 q3_1 r3_1) (.slice p3_2 q3_2 r3_2) (.int .i64 ((dV (dealB xa0_0 xa0_1 xa0_2 ya0_0 ya0_1 ya0_2 ya0_3 ya1_0 ya1_1 ya1_2) (dAt ya0_0 ya1_0 ya1_1)))) (.int .i64 ((dV (dealB xa0_0 xa0_1 xa0_2 ya0_0 ya0_1 ya0_2 ya0_3 ya1_0 ya1_1 ya1_2) (dSt ya0_1 ya1_0 ya1_1)))) (.int .i64 ((dV (dealB xa0_0 xa0_1 xa0_2 ya0_0 ya0_1 ya0_2 ya0_3 ya1_0 ya1_1 ya1_2) (dPu xa0_2 ya0_0 ya0_1 ya0_2 ya1_0 ya1_1)))) (.int .i64 ((dV (dealB xa0_0 xa0_1 xa0_2 ya0_0 ya0_1 ya0_2 ya0_3 ya1_0 ya1_1 ya1_2) (ya0_3 + 1))))), ((o3_0.mono (B' := w2.heap.size) (by first | exact Nat.le_refl _ | (simp; done) | (simp; omega))).set7 (by first | omega | (simp; done) | (simp; omega)) (.slice p3_0 q3_0 r3_0) (.slice p3_1 q3_1 r3_1) (.slice p3_2 q3_2 r3_2) (.int .i64 ((dV (dealB xa0_0 xa0_1 xa0_2 ya0_0 ya0_1 ya0_2 ya0_3 ya1_0 ya1_1 ya1_2) (dAt ya0_0 ya1_0 ya1_1)))) (.int .i64 ((dV (dealB xa0_0 xa0_1 xa0_2 ya0_0 ya0_1 ya0_2 ya0_3 ya1_0 ya1_1 ya1_2) (dSt ya0_1 ya1_0 ya1_1)))) (.int .i64 ((dV (dealB xa0_0 xa0_1 xa0_2 ya0_0 ya0_1 ya0_2 ya0_3 ya1_0 ya1_1 ya1_2) (dPu xa0_2 ya0_0 ya0_1 ya0_2 ya1_0 ya1_1)))) (.int .i64 ((dV (dealB xa0_0 xa0_1 xa0_2 ya0_0 ya0_1 ya0_2 ya0_3 ya1_0 ya1_1 ya1_2) (ya0_3 + 1))))), (o3_1.set7 (by first | omega | (simp; done) | (simp; omega)) (.slice p3_0 q3_0 r3_0) (.slice p3_1 q3_1 r3_1) (.slice p3_2 q3_2 r3_2) (.int .i64 ((dV (dealB xa0_0 xa0_1 xa0_2 ya0_0 ya0_1 ya0_2 ya0_3 ya1_0 ya1_1 ya1_2) (dAt ya0_0 ya1_0 ya1_1)))) (.int .i64 ((dV (dealB xa0_0 xa0_1 xa0_2 ya0_0 ya0_1 ya0_2 ya0_3 ya1_0 ya1_1 ya1_2) (dSt ya0_1 ya1_0 ya1_1)))) (.int .i64 ((dV (dealB xa0_0 xa0_1 xa0_2 ya0_0 ya0_1 ya0_2 ya0_3 ya1_0 ya1_1 ya1_2) (dPu xa0_2 ya0_0 ya0_1 ya0_2 ya1_0 ya1_1)))) (.int .i64 ((dV (dealB xa0_0 xa0_1 xa0_2 ya0_0 ya0_1 ya0_2 ya0_3 ya1_0 ya1_1 ya1_2) (ya0_3 + 1))))), (o3_2.set7 (by first | omega | (simp; done) | (simp; omega)) (.slice p3_0 q3_0 r3_0) (.slice p3_1 q3_1 r3_1) (.slice p3_2 q3_2 r3_2) (.int .i64 ((dV (dealB xa0_0 xa0_1 xa0_2 ya0_0 ya0_1 ya0_2 ya0_3 ya1_0 ya1_1 ya1_2) (dAt ya0_0 ya1_0 ya1_1)))) (.int .i64 ((dV (dealB xa0_0 xa0_1 xa0_2 ya0_0 ya0_1 ya0_2 ya0_3 ya1_0 ya1_1 ya1_2) (dSt ya0_1 ya1_0 ya1_1)))) (.int .i64 ((dV (dealB xa0_0 xa0_1 xa0_2 ya0_0 ya0_1 ya0_2 ya0_3 ya1_0 ya1_1 ya1_2) (dPu xa0_2 ya0_0 ya0_1 ya0_2 ya1_0 ya1_1)))) (.int .i64 ((dV (dealB xa0_0 xa0_1 xa0_2 ya0_0 ya0_1 ya0_2 ya0_3 ya1_0 ya1_1 ya1_2) (ya0_3 + 1))))), (fun k hk => by have := l3_0 k hk; first | omega | (simp at this; omega)), l3_1, o3_2.within, (by first | omega | (simp; done) | (simp; omega)), (by first | omega | (simp; done) | (simp; omega)), (by first | omega | (simp; done) | (simp; omega)), (by first | omega | (simp; done) | (simp; omega)), (by first | omega | (simp; done) | (simp; omega)), (by first | omega | (simp; done) | (simp; omega)), (by first | omega | (simp; done) | (simp; omega)), (.inl (by first | omega | (simp; done) | (simp; omega))), (F3.set7 (by first | omega | (simp; done) | (simp; omega)) (.slice p3_0 q3_0 r3_0) (.slice p3_1 q3_1 r3_1) (.slice p3_2 q3_2 r3_2) (.int .i64 ((dV (dealB xa0_0 xa0_1 xa0_2 ya0_0 ya0_1 ya0_2 ya0_3 ya1_0 ya1_1 ya1_2) (dAt ya0_0 ya1_0 ya1_1)))) (.int .i64 ((dV (dealB xa0_0 xa0_1 xa0_2 ya0_0 ya0_1 ya0_2 ya0_3 ya1_0 ya1_1 ya1_2) (dSt ya0_1 ya1_0 ya1_1)))) (.int .i64 ((dV (dealB xa0_0 xa0_1 xa0_2 ya0_0 ya0_1 ya0_2 ya0_3 ya1_0 ya1_1 ya1_2) (dPu xa0_2 ya0_0 ya0_1 ya0_2 ya1_0 ya1_1)))) (.int .i64 ((dV (dealB xa0_0 xa0_1 xa0_2 ya0_0 ya0_1 ya0_2 ya0_3 ya1_0 ya1_1 ya1_2) (ya0_3 + 1))))), e3_0, e3_1, e3_2⟩
  case rest =>
    obtain ⟨gw0, Lw0, M3_0, M3_1, Hw0, p3_0, q3_0, r3_0, p3_1, q3_1, r3_1, p3_2, q3_2, r3_2, rfl, rfl, Bq, o3_0, o3_1, o3_2, l3_0, l3_1, l3_2, y3_0, y3_1, y3_2, y3_3, y3_4, Gq, gq, dqw0, f3, e3_0, e3_1, e3_2⟩ := hcut
    clear kaH_0 kaH_1 kaH_2 kaH_3 kaH_4 kaH_5 kaH_6 kaD_0 kaD_1 kaD_2 ta0_0 ta0_1 ta0_2
    have Bxw0 := Lib.hid Bq; clear Bq
    obtain ⟨w3, rfl⟩ : ∃ wz : World, wz = wc := ⟨_, rfl⟩
    have Nw0 := Lib.hid (And.intro Gq gq)
    obtain ⟨Glw0, glw0⟩ := Nw0.out
    replace BxaH := Lib.hid (BxaH.out.fr f3)
    replace BxaD := Lib.hid (BxaD.out.fr f3)
    have g3 := hF.size
    have z3 := f3.size
    replace hF := hF.trans f3
    clear f3
    have kaH_0 := BxaH.out.cell (j := 0) (v := .slice pa0_0 qa0_0 ra0_0) rfl
    have kaH_1 := BxaH.out.cell (j := 1) (v := .slice pa0_1 qa0_1 ra0_1) rfl
    have kaH_2 := BxaH.out.cell (j := 2) (v := .slice pa0_2 qa0_2 ra0_2) rfl
    have kaH_3 := BxaH.out.cell (j := 3) (v := .int .i64 ya0_0) rfl
    have kaH_4 := BxaH.out.cell (j := 4) (v := .int .i64 ya0_1) rfl
    have kaH_5 := BxaH.out.cell (j := 5) (v := .int .i64 ya0_2) rfl
    have kaH_6 := BxaH.out.cell (j := 6) (v := .int .i64 ya0_3) rfl
    have kaD_0 := BxaD.out.cell (j := 0) (v := .int .i64 ya1_0) rfl
    have kaD_1 := BxaD.out.cell (j := 1) (v := .int .i64 ya1_1) rfl
    have kaD_2 := BxaD.out.cell (j := 2) (v := .int .i64 ya1_2) rfl
    have kw0_0 := Bxw0.out.cell (j := 0) (v := .slice p3_0 q3_0 r3_0) rfl
    have kw0_1 := Bxw0.out.cell (j := 1) (v := .slice p3_1 q3_1 r3_1) rfl
    have kw0_2 := Bxw0.out.cell (j := 2) (v := .slice p3_2 q3_2 r3_2) rfl
    have kw0_3 := Bxw0.out.cell (j := 3) (v := .int .i64 ((dV (dealB xa0_0 xa0_1 xa0_2 ya0_0 ya0_1 ya0_2 ya0_3 ya1_0 ya1_1 ya1_2) (dAt ya0_0 ya1_0 ya1_1)))) rfl
    have kw0_4 := Bxw0.out.cell (j := 4) (v := .int .i64 ((dV (dealB xa0_0 xa0_1 xa0_2 ya0_0 ya0_1 ya0_2 ya0_3 ya1_0 ya1_1 ya1_2) (dSt ya0_1 ya1_0 ya1_1)))) rfl
    have kw0_5 := Bxw0.out.cell (j := 5) (v := .int .i64 ((dV (dealB xa0_0 xa0_1 xa0_2 ya0_0 ya0_1 ya0_2 ya0_3 ya1_0 ya1_1 ya1_2) (dPu xa0_2 ya0_0 ya0_1 ya0_2 ya1_0 ya1_1)))) rfl
    have kw0_6 := Bxw0.out.cell (j := 6) (v := .int .i64 ((dV (dealB xa0_0 xa0_1 xa0_2 ya0_0 ya0_1 ya0_2 ya0_3 ya1_0 ya1_1 ya1_2) (ya0_3 + 1)))) rfl
    have hFx := hF
    go_wp2_with fail
    clear kaH_0 kaH_1 kaH_2 kaH_3 kaH_4 kaH_5 kaH_6 kaD_0 kaD_1 kaD_2 kw0_0 kw0_1 kw0_2 kw0_3 kw0_4 kw0_5 kw0_6
    refine (toHouse_any _ _ _ _ _ _ _ _ _ _ _ _ _ _ _ _ _ (sa0_0.fr hFx) (sa0_1.fr hFx) (sa0_2.fr hFx) (by omega) (by omega) (by omega)).mono ?_
    rintro e w4 ⟨p4_0, q4_0, r4_0, p4_1, q4_1, r4_1, p4_2, q4_2, r4_2, M4_0, M4_1, rfl, o4_0, o4_1, o4_2, l4_0, l4_1, y4_0, y4_1, y4_2, f4, e4_0, e4_1, e4_2⟩
    replace BxaH := Lib.hid (BxaH.out.fr f4)
    replace BxaD := Lib.hid (BxaD.out.fr f4)
    replace Bxw0 := Lib.hid (Bxw0.out.fr f4)
    replace o3_0 := o3_0.fr f4
    replace o3_1 := o3_1.fr f4
    replace o3_2 := o3_2.fr f4
    have g4 := hF.size
    have z4 := f4.size
    replace hF := hF.trans f4
    clear f4
    have kaH_0 := BxaH.out.cell (j := 0) (v := .slice pa0_0 qa0_0 ra0_0) rfl
    have kaH_1 := BxaH.out.cell (j := 1) (v := .slice pa0_1 qa0_1 ra0_1) rfl
    have kaH_2 := BxaH.out.cell (j := 2) (v := .slice pa0_2 qa0_2 ra0_2) rfl
    have kaH_3 := BxaH.out.cell (j := 3) (v := .int .i64 ya0_0) rfl
    have kaH_4 := BxaH.out.cell (j := 4) (v := .int .i64 ya0_1) rfl
    have kaH_5 := BxaH.out.cell (j := 5) (v := .int .i64 ya0_2) rfl
    have kaH_6 := BxaH.out.cell (j := 6) (v := .int .i64 ya0_3) rfl
    have kaD_0 := BxaD.out.cell (j := 0) (v := .int .i64 ya1_0) rfl
    have kaD_1 := BxaD.out.cell (j := 1) (v := .int .i64 ya1_1) rfl
    have kaD_2 := BxaD.out.cell (j := 2) (v := .int .i64 ya1_2) rfl
    have kw0_0 := Bxw0.out.cell (j := 0) (v := .slice p3_0 q3_0 r3_0) rfl
    have kw0_1 := Bxw0.out.cell (j := 1) (v := .slice p3_1 q3_1 r3_1) rfl
    have kw0_2 := Bxw0.out.cell (j := 2) (v := .slice p3_2 q3_2 r3_2) rfl
    have kw0_3 := Bxw0.out.cell (j := 3) (v := .int .i64 ((dV (dealB xa0_0 xa0_1 xa0_2 ya0_0 ya0_1 ya0_2 ya0_3 ya1_0 ya1_1 ya1_2) (dAt ya0_0 ya1_0 ya1_1)))) rfl
    have kw0_4 := Bxw0.out.cell (j := 4) (v := .int .i64 ((dV (dealB xa0_0 xa0_1 xa0_2 ya0_0 ya0_1 ya0_2 ya0_3 ya1_0 ya1_1 ya1_2) (dSt ya0_1 ya1_0 ya1_1)))) rfl
    have kw0_5 := Bxw0.out.cell (j := 5) (v := .int .i64 ((dV (dealB xa0_0 xa0_1 xa0_2 ya0_0 ya0_1 ya0_2 ya0_3 ya1_0 ya1_1 ya1_2) (dPu xa0_2 ya0_0 ya0_1 ya0_2 ya1_0 ya1_1)))) rfl
    have kw0_6 := Bxw0.out.cell (j := 6) (v := .int .i64 ((dV (dealB xa0_0 xa0_1 xa0_2 ya0_0 ya0_1 ya0_2 ya0_3 ya1_0 ya1_1 ya1_2) (ya0_3 + 1)))) rfl
    clear hFx
    have l4_2 := o4_2.within
    clear kaH_0 kaH_1 kaH_2 kaH_3 kaH_4 kaH_5 kaH_6 kaD_0 kaD_1 kaD_2 kw0_0 kw0_1 kw0_2 kw0_3 kw0_4 kw0_5 kw0_6
    have kaH_0 := (BxaH.out.alloc (.cells #[.slice p4_0 q4_0 r4_0, .slice p4_1 q4_1 r4_1, .slice p4_2 q4_2 r4_2, .int .i64 (ya0_0), .int .i64 (ya0_1), .int .i64 (ya0_2), .int .i64 (ya0_3)] 31)).cell (j := 0) (v := .slice pa0_0 qa0_0 ra0_0) rfl
    have kaH_1 := (BxaH.out.alloc (.cells #[.slice p4_0 q4_0 r4_0, .slice p4_1 q4_1 r4_1, .slice p4_2 q4_2 r4_2, .int .i64 (ya0_0), .int .i64 (ya0_1), .int .i64 (ya0_2), .int .i64 (ya0_3)] 31)).cell (j := 1) (v := .slice pa0_1 qa0_1 ra0_1) rfl
    have kaH_2 := (BxaH.out.alloc (.cells #[.slice p4_0 q4_0 r4_0, .slice p4_1 q4_1 r4_1, .slice p4_2 q4_2 r4_2, .int .i64 (ya0_0), .int .i64 (ya0_1), .int .i64 (ya0_2), .int .i64 (ya0_3)] 31)).cell (j := 2) (v := .slice pa0_2 qa0_2 ra0_2) rfl
    have kaH_3 := (BxaH.out.alloc (.cells #[.slice p4_0 q4_0 r4_0, .slice p4_1 q4_1 r4_1, .slice p4_2 q4_2 r4_2, .int .i64 (ya0_0), .int .i64 (ya0_1), .int .i64 (ya0_2), .int .i64 (ya0_3)] 31)).cell (j := 3) (v := .int .i64 ya0_0) rfl
    have kaH_4 := (BxaH.out.alloc (.cells #[.slice p4_0 q4_0 r4_0, .slice p4_1 q4_1 r4_1, .slice p4_2 q4_2 r4_2, .int .i64 (ya0_0), .int .i64 (ya0_1), .int .i64 (ya0_2), .int .i64 (ya0_3)] 31)).cell (j := 4) (v := .int .i64 ya0_1) rfl
    have kaH_5 := (BxaH.out.alloc (.cells #[.slice p4_0 q4_0 r4_0, .slice p4_1 q4_1 r4_1, .slice p4_2 q4_2 r4_2, .int .i64 (ya0_0), .int .i64 (ya0_1), .int .i64 (ya0_2), .int .i64 (ya0_3)] 31)).cell (j := 5) (v := .int .i64 ya0_2) rfl
    have kaH_6 := (BxaH.out.alloc (.cells #[.slice p4_0 q4_0 r4_0, .slice p4_1 q4_1 r4_1, .slice p4_2 q4_2 r4_2, .int .i64 (ya0_0), .int .i64 (ya0_1), .int .i64 (ya0_2), .int .i64 (ya0_3)] 31)).cell (j := 6) (v := .int .i64 ya0_3) rfl
    have kaD_0 := (BxaD.out.alloc (.cells #[.slice p4_0 q4_0 r4_0, .slice p4_1 q4_1 r4_1, .slice p4_2 q4_2 r4_2, .int .i64 (ya0_0), .int .i64 (ya0_1), .int .i64 (ya0_2), .int .i64 (ya0_3)] 31)).cell (j := 0) (v := .int .i64 ya1_0) rfl
    have kaD_1 := (BxaD.out.alloc (.cells #[.slice p4_0 q4_0 r4_0, .slice p4_1 q4_1 r4_1, .slice p4_2 q4_2 r4_2, .int .i64 (ya0_0), .int .i64 (ya0_1), .int .i64 (ya0_2), .int .i64 (ya0_3)] 31)).cell (j := 1) (v := .int .i64 ya1_1) rfl
    have kaD_2 := (BxaD.out.alloc (.cells #[.slice p4_0 q4_0 r4_0, .slice p4_1 q4_1 r4_1, .slice p4_2 q4_2 r4_2, .int .i64 (ya0_0), .int .i64 (ya0_1), .int .i64 (ya0_2), .int .i64 (ya0_3)] 31)).cell (j := 2) (v := .int .i64 ya1_2) rfl
    have kw0_0 := (Bxw0.out.alloc (.cells #[.slice p4_0 q4_0 r4_0, .slice p4_1 q4_1 r4_1, .slice p4_2 q4_2 r4_2, .int .i64 (ya0_0), .int .i64 (ya0_1), .int .i64 (ya0_2), .int .i64 (ya0_3)] 31)).cell (j := 0) (v := .slice p3_0 q3_0 r3_0) rfl
    have kw0_1 := (Bxw0.out.alloc (.cells #[.slice p4_0 q4_0 r4_0, .slice p4_1 q4_1 r4_1, .slice p4_2 q4_2 r4_2, .int .i64 (ya0_0), .int .i64 (ya0_1), .int .i64 (ya0_2), .int .i64 (ya0_3)] 31)).cell (j := 1) (v := .slice p3_1 q3_1 r3_1) rfl
    have kw0_2 := (Bxw0.out.alloc (.cells #[.slice p4_0 q4_0 r4_0, .slice p4_1 q4_1 r4_1, .slice p4_2 q4_2 r4_2, .int .i64 (ya0_0), .int .i64 (ya0_1), .int .i64 (ya0_2), .int .i64 (ya0_3)] 31)).cell (j := 2) (v := .slice p3_2 q3_2 r3_2) rfl
    have kw0_3 := (Bxw0.out.alloc (.cells #[.slice p4_0 q4_0 r4_0, .slice p4_1 q4_1 r4_1, .slice p4_2 q4_2 r4_2, .int .i64 (ya0_0), .int .i64 (ya0_1), .int .i64 (ya0_2), .int .i64 (ya0_3)] 31)).cell (j := 3) (v := .int .i64 ((dV (dealB xa0_0 xa0_1 xa0_2 ya0_0 ya0_1 ya0_2 ya0_3 ya1_0 ya1_1 ya1_2) (dAt ya0_0 ya1_0 ya1_1)))) rfl
    have kw0_4 := (Bxw0.out.alloc (.cells #[.slice p4_0 q4_0 r4_0, .slice p4_1 q4_1 r4_1, .slice p4_2 q4_2 r4_2, .int .i64 (ya0_0), .int .i64 (ya0_1), .int .i64 (ya0_2), .int .i64 (ya0_3)] 31)).cell (j := 4) (v := .int .i64 ((dV (dealB xa0_0 xa0_1 xa0_2 ya0_0 ya0_1 ya0_2 ya0_3 ya1_0 ya1_1 ya1_2) (dSt ya0_1 ya1_0 ya1_1)))) rfl
    have kw0_5 := (Bxw0.out.alloc (.cells #[.slice p4_0 q4_0 r4_0, .slice p4_1 q4_1 r4_1, .slice p4_2 q4_2 r4_2, .int .i64 (ya0_0), .int .i64 (ya0_1), .int .i64 (ya0_2), .int .i64 (ya0_3)] 31)).cell (j := 5) (v := .int .i64 ((dV (dealB xa0_0 xa0_1 xa0_2 ya0_0 ya0_1 ya0_2 ya0_3 ya1_0 ya1_1 ya1_2) (dPu xa0_2 ya0_0 ya0_1 ya0_2 ya1_0 ya1_1)))) rfl
    have kw0_6 := (Bxw0.out.alloc (.cells #[.slice p4_0 q4_0 r4_0, .slice p4_1 q4_1 r4_1, .slice p4_2 q4_2 r4_2, .int .i64 (ya0_0), .int .i64 (ya0_1), .int .i64 (ya0_2), .int .i64 (ya0_3)] 31)).cell (j := 6) (v := .int .i64 ((dV (dealB xa0_0 xa0_1 xa0_2 ya0_0 ya0_1 ya0_2 ya0_3 ya1_0 ya1_1 ya1_2) (ya0_3 + 1)))) rfl
    go_upto_region 7 with fail
    clear kaH_0 kaH_1 kaH_2 kaH_3 kaH_4 kaH_5 kaH_6 kaD_0 kaD_1 kaD_2 kw0_0 kw0_1 kw0_2 kw0_3 kw0_4 kw0_5 kw0_6
    have fq := (Fr.refl w4).alloc (.cells #[.slice p4_0 q4_0 r4_0, .slice p4_1 q4_1 r4_1, .slice p4_2 q4_2 r4_2, .int .i64 (ya0_0), .int .i64 (ya0_1), .int .i64 (ya0_2), .int .i64 (ya0_3)] 31)
    have Bxx0 := Lib.hid (Blk.new w4 #[.slice p4_0 q4_0 r4_0, .slice p4_1 q4_1 r4_1, .slice p4_2 q4_2 r4_2, .int .i64 (ya0_0), .int .i64 (ya0_1), .int .i64 (ya0_2), .int .i64 (ya0_3)] 31)
    have z5 := World.size_alloc w4 (.cells #[.slice p4_0 q4_0 r4_0, .slice p4_1 q4_1 r4_1, .slice p4_2 q4_2 r4_2, .int .i64 (ya0_0), .int .i64 (ya0_1), .int .i64 (ya0_2), .int .i64 (ya0_3)] 31)
    generalize hwq : w4.alloc (.cells #[.slice p4_0 q4_0 r4_0, .slice p4_1 q4_1 r4_1, .slice p4_2 q4_2 r4_2, .int .i64 (ya0_0), .int .i64 (ya0_1), .int .i64 (ya0_2), .int .i64 (ya0_3)] 31) = w5 at fq Bxx0 z5 ⊢
    clear hwq
    have zq5 := And.intro (Nat.le_of_eq z5) (Nat.le_of_eq z5.symm); clear z5
    replace BxaH := Lib.hid (BxaH.out.fr fq)
    replace BxaD := Lib.hid (BxaD.out.fr fq)
    replace Bxw0 := Lib.hid (Bxw0.out.fr fq)
    replace o3_0 := o3_0.fr fq
    replace o3_1 := o3_1.fr fq
    replace o3_2 := o3_2.fr fq
    replace o4_0 := o4_0.fr fq
    replace o4_1 := o4_1.fr fq
    replace o4_2 := o4_2.fr fq
    have nx0 := Bxx0.out.lt
    replace hF := hF.trans fq
    clear fq
    have kx0_0 := Bxx0.out.cell (j := 0) (v := .slice p4_0 q4_0 r4_0) rfl
    have kx0_1 := Bxx0.out.cell (j := 1) (v := .slice p4_1 q4_1 r4_1) rfl
    have kx0_2 := Bxx0.out.cell (j := 2) (v := .slice p4_2 q4_2 r4_2) rfl
    have kx0_3 := Bxx0.out.cell (j := 3) (v := .int .i64 (ya0_0)) rfl
    have kx0_4 := Bxx0.out.cell (j := 4) (v := .int .i64 (ya0_1)) rfl
    have kx0_5 := Bxx0.out.cell (j := 5) (v := .int .i64 (ya0_2)) rfl
    have kx0_6 := Bxx0.out.cell (j := 6) (v := .int .i64 (ya0_3)) rfl
    have kaD_0 := BxaD.out.cell (j := 0) (v := .int .i64 ya1_0) rfl
    have kaD_1 := BxaD.out.cell (j := 1) (v := .int .i64 ya1_1) rfl
    have kaD_2 := BxaD.out.cell (j := 2) (v := .int .i64 ya1_2) rfl
    go_cut [9, 10] (fun s9 s10 wx => ∃ (gg0 Lg0 M7_0 M7_1 Hg0 : Nat) (p7_0 : Option Addr) (q7_0 r7_0 : Nat) (p7_1 : Option Addr) (q7_1 r7_1 : Nat) (p7_2 : Option Addr) (q7_2 r7_2 : Nat), s9 = .pointer (some ⟨gg0, 0, none⟩) ∧ s10 = .bool ((dealB xa0_0 xa0_1 xa0_2 ya0_0 ya0_1 ya0_2 ya0_3 ya1_0 ya1_1 ya1_2)) ∧ Blk wx gg0 #[.slice p7_0 q7_0 r7_0, .slice p7_1 q7_1 r7_1, .slice p7_2 q7_2 r7_2, .int .i64 ((dV (dealB xa0_0 xa0_1 xa0_2 ya0_0 ya0_1 ya0_2 ya0_3 ya1_0 ya1_1 ya1_2) (dAt ya0_0 ya1_0 ya1_1))), .int .i64 ((dV (dealB xa0_0 xa0_1 xa0_2 ya0_0 ya0_1 ya0_2 ya0_3 ya1_0 ya1_1 ya1_2) (dSt ya0_1 ya1_0 ya1_1))), .int .i64 ((dV (dealB xa0_0 xa0_1 xa0_2 ya0_0 ya0_1 ya0_2 ya0_3 ya1_0 ya1_1 ya1_2) (dPu xa0_2 ya0_0 ya0_1 ya0_2 ya1_0 ya1_1))), .int .i64 ((dV (dealB xa0_0 xa0_1 xa0_2 ya0_0 ya0_1 ya0_2 ya0_3 ya1_0 ya1_1 ya1_2) (ya0_3 + 1)))] 31 ∧ Own Lg0 wx p7_0 q7_0 r7_0 ((nhV (dealB xa0_0 xa0_1 xa0_2 ya0_0 ya0_1 ya0_2 ya0_3 ya1_0 ya1_1 ya1_2) xa0_0)) ∧ Own M7_0 wx p7_1 q7_1 r7_1 ((nhV (dealB xa0_0 xa0_1 xa0_2 ya0_0 ya0_1 ya0_2 ya0_3 ya1_0 ya1_1 ya1_2) (dW xa0_1 ya1_0 ya1_1 ya1_2))) ∧ Own M7_1 wx p7_2 q7_2 r7_2 ((nhV (dealB xa0_0 xa0_1 xa0_2 ya0_0 ya0_1 ya0_2 ya0_3 ya1_0 ya1_1 ya1_2) (dX xa0_2 ya1_0 ya1_1 ya1_2))) ∧ Within p7_0 Lg0 M7_0 ∧ Within p7_1 M7_0 M7_1 ∧ Within p7_2 M7_1 Hg0 ∧ w5.heap.size ≤ Lg0 ∧ Lg0 ≤ M7_0 ∧ M7_0 ≤ M7_1 ∧ M7_1 ≤ Hg0 ∧ Hg0 ≤ wx.heap.size ∧ w5.heap.size ≤ gg0 ∧ gg0 < wx.heap.size ∧ (gg0 < Lg0 ∨ Hg0 ≤ gg0) ∧ Fr w5 wx ∧ q7_0 ≤ 1048576 ∧ q7_1 ≤ 1048576 ∧ q7_2 ≤ 1048576)
    case first =>
      go_region_held3 (fun w' => w'.cell? ⟨w4.heap.size, 0, none⟩ = some (.slice p4_0 q4_0 r4_0) ∧ w'.cell? ⟨w4.heap.size, 1, none⟩ = some (.slice p4_1 q4_1 r4_1) ∧ w'.cell? ⟨w4.heap.size, 2, none⟩ = some (.slice p4_2 q4_2 r4_2) ∧ w'.cell? ⟨w4.heap.size, 3, none⟩ = some (.int .i64 (ya0_0)) ∧ w'.cell? ⟨w4.heap.size, 4, none⟩ = some (.int .i64 (ya0_1)) ∧ w'.cell? ⟨w4.heap.size, 5, none⟩ = some (.int .i64 (ya0_2)) ∧ w'.cell? ⟨w4.heap.size, 6, none⟩ = some (.int .i64 (ya0_3)) ∧ w'.cell? ⟨w.heap.size + 1, 0, none⟩ = some (.int .i64 ya1_0) ∧ w'.cell? ⟨w.heap.size + 1, 1, none⟩ = some (.int .i64 ya1_1) ∧ w'.cell? ⟨w.heap.size + 1, 2, none⟩ = some (.int .i64 ya1_2))
        (first | (with_reducible exact ⟨F7.keep kx0_0, F7.keep kx0_1, F7.keep kx0_2, F7.keep kx0_3, F7.keep kx0_4, F7.keep kx0_5, F7.keep kx0_6, F7.keep kaD_0, F7.keep kaD_1, F7.keep kaD_2⟩) | (with_reducible exact ⟨F6.keep kx0_0, F6.keep kx0_1, F6.keep kx0_2, F6.keep kx0_3, F6.keep kx0_4, F6.keep kx0_5, F6.keep kx0_6, F6.keep kaD_0, F6.keep kaD_1, F6.keep kaD_2⟩) | (with_reducible exact ⟨(F7.alloc _).keep kx0_0, (F7.alloc _).keep kx0_1, (F7.alloc _).keep kx0_2, (F7.alloc _).keep kx0_3, (F7.alloc _).keep kx0_4, (F7.alloc _).keep kx0_5, (F7.alloc _).keep kx0_6, (F7.alloc _).keep kaD_0, (F7.alloc _).keep kaD_1, (F7.alloc _).keep kaD_2⟩) | (with_reducible exact ⟨(F6.alloc _).keep kx0_0, (F6.alloc _).keep kx0_1, (F6.alloc _).keep kx0_2, (F6.alloc _).keep kx0_3, (F6.alloc _).keep kx0_4, (F6.alloc _).keep kx0_5, (F6.alloc _).keep kx0_6, (F6.alloc _).keep kaD_0, (F6.alloc _).keep kaD_1, (F6.alloc _).keep kaD_2⟩) | ((with_reducible refine ⟨(cell7 _ _ _ _ _ _ _ ?_).trans (F7.keep kx0_0), (cell7 _ _ _ _ _ _ _ ?_).trans (F7.keep kx0_1), (cell7 _ _ _ _ _ _ _ ?_).trans (F7.keep kx0_2), (cell7 _ _ _ _ _ _ _ ?_).trans (F7.keep kx0_3), (cell7 _ _ _ _ _ _ _ ?_).trans (F7.keep kx0_4), (cell7 _ _ _ _ _ _ _ ?_).trans (F7.keep kx0_5), (cell7 _ _ _ _ _ _ _ ?_).trans (F7.keep kx0_6), (cell7 _ _ _ _ _ _ _ ?_).trans (F7.keep kaD_0), (cell7 _ _ _ _ _ _ _ ?_).trans (F7.keep kaD_1), (cell7 _ _ _ _ _ _ _ ?_).trans (F7.keep kaD_2)⟩) <;> omega) | go_keep)
        (first
          | (go_at_call 43; refine (toDeal_any _ _ _ _).mono ?_; rintro e w6 ⟨rfl, f6⟩; have F6 : Fr w5 w6 := (by first | exact ((Fr.refl w5).drew' 1).trans f6 | exact (((Fr.refl w5).alloc _).drew' 1).trans f6); have Y6 := F6.size)
          | (go_at_call 44; refine (impl_DealHouse_any _ _ _ _ _ _ _ _ _ _ _ _ _ _ _ _ _ _ _ _ (by first | exact ((o4_0.fr F6).sl) | exact ((o4_0.fr F6).fr ((Fr.refl _).alloc _)).sl) (by first | exact ((o4_1.fr F6).sl) | exact ((o4_1.fr F6).fr ((Fr.refl _).alloc _)).sl) (by first | exact ((o4_2.fr F6).sl) | exact ((o4_2.fr F6).fr ((Fr.refl _).alloc _)).sl) ia0_0 ia0_1 ia0_2 ia0_3 ia1_0 ia1_1 ia1_2).mono ?_; rintro e w7 ⟨p7_0, q7_0, r7_0, p7_1, q7_1, r7_1, p7_2, q7_2, r7_2, M7_0, M7_1, rfl, o7_0, o7_1, o7_2, l7_0, l7_1, y7_0, y7_1, y7_2, f7, e7_0, e7_1, e7_2⟩; have F7 : Fr w5 w7 := (by first | exact (F6).trans f7 | exact (F6.alloc _).trans f7); (try (have zb := ((((Blk.new w5 #[.slice none 0 0, .slice none 0 0, .slice none 0 0, .int .i64 0, .int .i64 0, .int .i64 0, .int .i64 0] 31).fr (Fr.drewN _ 1)).fr f6).fr f7); have zc0 := zb.cell (j := 0) rfl; have zc1 := zb.cell (j := 1) rfl; have zc2 := zb.cell (j := 2) rfl; have zc3 := zb.cell (j := 3) rfl; have zc4 := zb.cell (j := 4) rfl; have zc5 := zb.cell (j := 5) rfl; have zc6 := zb.cell (j := 6) rfl; have zf0 := zb.free 0; have zf1 := zb.free 1; have zf2 := zb.free 2; have zf3 := zb.free 3; have zf4 := zb.free 4; have zf5 := zb.free 5; have zf6 := zb.free 6; clear zb)); (try (have zb := ((Blk.new w6 #[.slice none 0 0, .slice none 0 0, .slice none 0 0, .int .i64 0, .int .i64 0, .int .i64 0, .int .i64 0] 31).fr f7); have zc0 := zb.cell (j := 0) rfl; have zc1 := zb.cell (j := 1) rfl; have zc2 := zb.cell (j := 2) rfl; have zc3 := zb.cell (j := 3) rfl; have zc4 := zb.cell (j := 4) rfl; have zc5 := zb.cell (j := 5) rfl; have zc6 := zb.cell (j := 6) rfl; have zf0 := zb.free 0; have zf1 := zb.free 1; have zf2 := zb.free 2; have zf3 := zb.free 3; have zf4 := zb.free 4; have zf5 := zb.free 5; have zf6 := zb.free 6; clear zb))))
      all_goals
        go_wp2_with fail
        go_meet
        have zs6 := f6.size
        try simp at zs6
        have zs7 := f7.size
        try simp at zs7
        have zz1 := f7.size
        have zz2 := F7.size
        have zz3 := F6.size
        try simp only [World.size_alloc] at zz1 zz2 y7_0 l7_0
      · exact ⟨w7.heap.size, w6.heap.size, _, _, w7.heap.size, _, _, _, _, _, _, _, _, _, rfl, rfl, (Blk.new w7 _ 31), ((o7_0.mono (B' := w6.heap.size) (by first | exact Nat.le_refl _ | (simp; done) | (simp; omega))).fr ((Fr.refl _).alloc _)), (o7_1.fr ((Fr.refl _).alloc _)), (o7_2.fr ((Fr.refl _).alloc _)), (fun k hk => by have := l7_0 k hk; first | omega | (simp at this; omega)), l7_1, o7_2.within, (by first | omega | (simp; done) | (simp; omega)), (by first | omega | (simp; done) | (simp; omega)), (by first | omega | (simp; done) | (simp; omega)), (by first | omega | (simp; done) | (simp; omega)), (by first | omega | (simp; done) | (simp; omega)), (by first | omega | (simp; done) | (simp; omega)), (by first | omega | (simp; done) | (simp; omega)), (.inr (Nat.le_refl _)), (F7.alloc _), e7_0, e7_1, e7_2⟩
      · exact ⟨w6.heap.size, w6.heap.size + 1, _, _, w7.heap.size, _, _, _, _, _, _, _, _, _, rfl, rfl, (((Blk.new w6 _ 31).fr f7).set7 (.slice p7_0 q7_0 r7_0) (.slice p7_1 q7_1 r7_1) (.slice p7_2 q7_2 r7_2) (.int .i64 ((dV (dealB xa0_0 xa0_1 xa0_2 ya0_0 ya0_1 ya0_2 ya0_3 ya1_0 ya1_1 ya1_2) (dAt ya0_0 ya1_0 ya1_1)))) (.int .i64 ((dV (dealB xa0_0 xa0_1 xa0_2 ya0_0 ya0_1 ya0_2 ya0_3 ya1_0 ya1_1 ya1_2) (dSt ya0_1 ya1_0 ya1_1)))) (.int .i64 ((dV (dealB xa0_0 xa0_1 xa0_2 ya0_0 ya0_1 ya0_2 ya0_3 ya1_0 ya1_1 ya1_2) (dPu xa0_2 ya0_0 ya0_1 ya0_2 ya1_0 ya1_1)))) (.int .i64 ((dV (dealB xa0_0 xa0_1 xa0_2 ya0_0 ya0_1 ya0_2 ya0_3 ya1_0 ya1_1 ya1_2) (ya0_3 + 1))))), ((o7_0.mono (B' := w6.heap.size + 1) (by first | exact Nat.le_refl _ | (simp; done) | (simp; omega))).set7 (by first | omega | (simp; done) | (simp; omega)) (.slice p7_0 q7_0 r7_0) (.slice p7_1 q7_1 r7_1) (.slice p7_2 q7_2 r7_2) (.int .i64 ((dV (dealB xa0_0 xa0_1 xa0_2 ya0_0 ya0_1 ya0_2 ya0_3 ya1_0 ya1_1 ya1_2) (dAt ya0_0 ya1_0 ya1_1)))) (.int .i64 ((dV (dealB xa0_0 xa0_1 xa0_2 ya0_0 ya0_1 ya0_2 ya0_3 ya1_0 ya1_1 ya1_2) (dSt ya0_1 ya1_0 ya1_1)))) (.int .i64 ((dV (dealB xa0_0 xa0_1 xa0_2 ya0_0 ya0_1 ya0_2 ya0_3 ya1_0 ya1_1 ya1_2) (dPu xa0_2 ya0_0 ya0_1 ya0_2 ya1_0 ya1_1)))) (.int .i64 ((dV (dealB xa0_0 xa0_1 xa0_2 ya0_0 ya0_1 ya0_2 ya0_3 ya1_0 ya1_1 ya1_2) (ya0_3 + 1))))), (o7_1.set7 (by first | omega | (simp; done) | (simp; omega)) (.slice p7_0 q7_0 r7_0) (.slice p7_1 q7_1 r7_1) (.slice p7_2 q7_2 r7_2) (.int .i64 ((dV (dealB xa0_0 xa0_1 xa0_2 ya0_0 ya0_1 ya0_2 ya0_3 ya1_0 ya1_1 ya1_2) (dAt ya0_0 ya1_0 ya1_1)))) (.int .i64 ((dV (dealB xa0_0 xa0_1 xa0_2 ya0_0 ya0_1 ya0_2 ya0_3 ya1_0 ya1_1 ya1_2) (dSt ya0_1 ya1_0 ya1_1)))) (.int .i64 ((dV (dealB xa0_0 xa0_1 xa0_2 ya0_0 ya0_1 ya0_2 ya0_3 ya1_0 ya1_1 ya1_2) (dPu xa0_2 ya0_0 ya0_1 ya0_2 ya1_0 ya1_1)))) (.int .i64 ((dV (dealB xa0_0 xa0_1 xa0_2 ya0_0 ya0_1 ya0_2 ya0_3 ya1_0 ya1_1 ya1_2) (ya0_3 + 1))))), (o7_2.set7 (by first | omega | (simp; done) | (simp; omega)) (.slice p7_0 q7_0 r7_0) (.slice p7_1 q7_1 r7_1) (.slice p7_2 q7_2 r7_2) (.int .i64 ((dV (dealB xa0_0 xa0_1 xa0_2 ya0_0 ya0_1 ya0_2 ya0_3 ya1_0 ya1_1 ya1_2) (dAt ya0_0 ya1_0 ya1_1)))) (.int .i64 ((dV (dealB xa0_0 xa0_1 xa0_2 ya0_0 ya0_1 ya0_2 ya0_3 ya1_0 ya1_1 ya1_2) (dSt ya0_1 ya1_0 ya1_1)))) (.int .i64 ((dV (dealB xa0_0 xa0_1 xa0_2 ya0_0 ya0_1 ya0_2 ya0_3 ya1_0 ya1_1 ya1_2) (dPu xa0_2 ya0_0 ya0_1 ya0_2 ya1_0 ya1_1)))) (.int .i64 ((dV (dealB xa0_0 xa0_1 xa0_2 ya0_0 ya0_1 ya0_2 ya0_3 ya1_0 ya1_1 ya1_2) (ya0_3 + 1))))), (fun k hk => by have := l7_0 k hk; first | omega | (simp at this; omega)), l7_1, o7_2.within, (by first | omega | (simp; done) | (simp; omega)), (by first | omega | (simp; done) | (simp; omega)), (by first | omega | (simp; done) | (simp; omega)), (by first | omega | (simp; done) | (simp; omega)), (by first | omega | (simp; done) | (simp; omega)), (by first | omega | (simp; done) | (simp; omega)), (by first | omega | (simp; done) | (simp; omega)), (.inl (by first | omega | (simp; done) | (simp; omega))), (F7.set7 (by first | omega | (simp; done) | (simp; omega)) (.slice p7_0 q7_0 r7_0) (.slice p7_1 q7_1 r7_1) (.slice p7_2 q7_2 r7_2) (.int .i64 ((dV (dealB xa0_0 xa0_1 xa0_2 ya0_0 ya0_1 ya0_2 ya0_3 ya1_0 ya1_1 ya1_2) (dAt ya0_0 ya1_0 ya1_1)))) (.int .i64 ((dV (dealB xa0_0 xa0_1 xa0_2 ya0_0 ya0_1 ya0_2 ya0_3 ya1_0 ya1_1 ya1_2) (dSt ya0_1 ya1_0 ya1_1)))) (.int .i64 ((dV (dealB xa0_0 xa0_1 xa0_2 ya0_0 ya0_1 ya0_2 ya0_3 ya1_0 ya1_1 ya1_2) (dPu xa0_2 ya0_0 ya0_1 ya0_2 ya1_0 ya1_1)))) (.int .i64 ((dV (dealB xa0_0 xa0_1 xa0_2 ya0_0 ya0_1 ya0_2 ya0_3 ya1_0 ya1_1 ya1_2) (ya0_3 + 1))))), e7_0, e7_1, e7_2⟩
      · exact ⟨w5.heap.size, w6.heap.size, _, _, w7.heap.size, _, _, _, _, _, _, _, _, _, rfl, rfl, (((((Blk.new w5 _ 31).fr (Fr.drewN _ 1)).fr f6).fr f7).set7 (.slice p7_0 q7_0 r7_0) (.slice p7_1 q7_1 r7_1) (.slice p7_2 q7_2 r7_2) (.int .i64 ((dV (dealB xa0_0 xa0_1 xa0_2 ya0_0 ya0_1 ya0_2 ya0_3 ya1_0 ya1_1 ya1_2) (dAt ya0_0 ya1_0 ya1_1)))) (.int .i64 ((dV (dealB xa0_0 xa0_1 xa0_2 ya0_0 ya0_1 ya0_2 ya0_3 ya1_0 ya1_1 ya1_2) (dSt ya0_1 ya1_0 ya1_1)))) (.int .i64 ((dV (dealB xa0_0 xa0_1 xa0_2 ya0_0 ya0_1 ya0_2 ya0_3 ya1_0 ya1_1 ya1_2) (dPu xa0_2 ya0_0 ya0_1 ya0_2 ya1_0 ya1_1)))) (.int .i64 ((dV (dealB xa0_0 xa0_1 xa0_2 ya0_0 ya0_1 ya0_2 ya0_3 ya1_0 ya1_1 ya1_2) (ya0_3 + 1))))), ((o7_0.mono (B' := w6.heap.size) (by first | exact Nat.le_refl _ | (simp; done) | (simp; omega))).set7 (by first | omega | (simp; done) | (simp; omega)) (.slice p7_0 q7_0 r7_0) (.slice p7_1 q7_1 r7_1) (.slice p7_2 q7_2 r7_2) (.int .i64 ((dV (dealB xa0_0 xa0_1 xa0_2 ya0_0 ya0_1 ya0_2 ya0_3 ya1_0 ya1_1 ya1_2) (dAt ya0_0 ya1_0 ya1_1)))) (.int .i64 ((dV (dealB xa0_0 xa0_1 xa0_2 ya0_0 ya0_1 ya0_2 ya0_3 ya1_0 ya1_1 ya1_2) (dSt ya0_1 ya1_0 ya1_1)))) (.int .i64 ((dV (dealB xa0_0 xa0_1 xa0_2 ya0_0 ya0_1 ya0_2 ya0_3 ya1_0 ya1_1 ya1_2) (dPu xa0_2 ya0_0 ya0_1 ya0_2 ya1_0 ya1_1)))) (.int .i64 ((dV (dealB xa0_0 xa0_1 xa0_2 ya0_0 ya0_1 ya0_2 ya0_3 ya1_0 ya1_1 ya1_2) (ya0_3 + 1))))), (o7_1.set7 (by first | omega | (simp; done) | (simp; omega)) (.slice p7_0 q7_0 r7_0) (.slice p7_1 q7_1 r7_1) (.slice p7_2 q7_2 r7_2) (.int .i64 ((dV (dealB xa0_0 xa0_1 xa0_2 ya0_0 ya0_1 ya0_2 ya0_3 ya1_0 ya1_1 ya1_2) (dAt ya0_0 ya1_0 ya1_1)))) (.int .i64 ((dV (dealB xa0_0 xa0_1 xa0_2 ya0_0 ya0_1 ya0_2 ya0_3 ya1_0 ya1_1 ya1_2) (dSt ya0_1 ya1_0 ya1_1)))) (.int .i64 ((dV (dealB xa0_0 xa0_1 xa0_2 ya0_0 ya0_1 ya0_2 ya0_3 ya1_0 ya1_1 ya1_2) (dPu xa0_2 ya0_0 ya0_1 ya0_2 ya1_0 ya1_1)))) (.int .i64 ((dV (dealB xa0_0 xa0_1 xa0_2 ya0_0 ya0_1 ya0_2 ya0_3 ya1_0 ya1_1 ya1_2) (ya0_3 + 1))))), (o7_2.set7 (by first | omega | (simp; done) | (simp; omega)) (.slice p7_0 q7_0 r7_0) (.slice p7_1 q7_1 r7_1) (.slice p7_2 q7_2 r7_2) (.int .i64 ((dV (dealB xa0_0 xa0_1 xa0_2 ya0_0 ya0_1 ya0_2 ya0_3 ya1_0 ya1_1 ya1_2) (dAt ya0_0 ya1_0 ya1_1)))) (.int .i64 ((dV (dealB xa0_0 xa0_1 xa0_2 ya0_0 ya0_1 ya0_2 ya0_3 ya1_0 ya1_1 ya1_2) (dSt ya0_1 ya1_0 ya1_1)))) (.int .i64 ((dV (dealB xa0_0 xa0_1 xa0_2 ya0_0 ya0_1 ya0_2 ya0_3 ya1_0 ya1_1 ya1_2) (dPu xa0_2 ya0_0 ya0_1 ya0_2 ya1_0 ya1_1)))) (.int .i64 ((dV (dealB xa0_0 xa0_1 xa0_2 ya0_0 ya0_1 ya0_2 ya0_3 ya1_0 ya1_1 ya1_2) (ya0_3 + 1))))), (fun k hk => by have := l7_0 k hk; first | omega | (simp at this; omega)), l7_1, o7_2.within, (by first | omega | (simp; done) | (simp; omega)), (by first | omega | (simp; done) | (simp; omega)), (by first | omega | (simp; done) | (simp; omega)), (by first | omega | (simp; done) | (simp; omega)), (by first | omega | (simp; done) | (simp; omega)), (by first | omega | (simp; done) | (simp; omega)), (by first | omega | (simp; done) | (simp; omega)), (.inl (by first | omega | (simp; done) | (simp; omega))), (F7.set7 (by first | omega | (simp; done) | (simp; omega)) (.slice p7_0 q7_0 r7_0) (.slice p7_1 q7_1 r7_1) (.slice p7_2 q7_2 r7_2) (.int .i64 ((dV (dealB xa0_0 xa0_1 xa0_2 ya0_0 ya0_1 ya0_2 ya0_3 ya1_0 ya1_1 ya1_2) (dAt ya0_0 ya1_0 ya1_1)))) (.int .i64 ((dV (dealB xa0_0 xa0_1 xa0_2 ya0_0 ya0_1 ya0_2 ya0_3 ya1_0 ya1_1 ya1_2) (dSt ya0_1 ya1_0 ya1_1)))) (.int .i64 ((dV (dealB xa0_0 xa0_1 xa0_2 ya0_0 ya0_1 ya0_2 ya0_3 ya1_0 ya1_1 ya1_2) (dPu xa0_2 ya0_0 ya0_1 ya0_2 ya1_0 ya1_1)))) (.int .i64 ((dV (dealB xa0_0 xa0_1 xa0_2 ya0_0 ya0_1 ya0_2 ya0_3 ya1_0 ya1_1 ya1_2) (ya0_3 + 1))))), e7_0, e7_1, e7_2⟩
    case rest =>
      obtain ⟨gg0, Lg0, M7_0, M7_1, Hg0, p7_0, q7_0, r7_0, p7_1, q7_1, r7_1, p7_2, q7_2, r7_2, rfl, rfl, Bq, o7_0, o7_1, o7_2, l7_0, l7_1, l7_2, y7_0, y7_1, y7_2, y7_3, y7_4, Gq, gq, dqg0, f7, e7_0, e7_1, e7_2⟩ := hcut
      clear kx0_0 kx0_1 kx0_2 kx0_3 kx0_4 kx0_5 kx0_6 kaD_0 kaD_1 kaD_2 
      have Bxg0 := Lib.hid Bq; clear Bq
      obtain ⟨w7, rfl⟩ : ∃ wz : World, wz = wc := ⟨_, rfl⟩
      have Ng0 := Lib.hid (And.intro Gq gq)
      obtain ⟨Glg0, glg0⟩ := Ng0.out
      replace BxaH := Lib.hid (BxaH.out.fr f7)
      replace BxaD := Lib.hid (BxaD.out.fr f7)
      replace Bxw0 := Lib.hid (Bxw0.out.fr f7)
      replace Bxx0 := Lib.hid (Bxx0.out.fr f7)
      replace o3_0 := o3_0.fr f7
      replace o3_1 := o3_1.fr f7
      replace o3_2 := o3_2.fr f7
      replace o4_0 := o4_0.fr f7
      replace o4_1 := o4_1.fr f7
      replace o4_2 := o4_2.fr f7
      have g7 := hF.size
      have z7 := f7.size
      replace hF := hF.trans f7
      clear f7
      have kaH_0 := BxaH.out.cell (j := 0) (v := .slice pa0_0 qa0_0 ra0_0) rfl
      have kaH_1 := BxaH.out.cell (j := 1) (v := .slice pa0_1 qa0_1 ra0_1) rfl
      have kaH_2 := BxaH.out.cell (j := 2) (v := .slice pa0_2 qa0_2 ra0_2) rfl
      have kaH_3 := BxaH.out.cell (j := 3) (v := .int .i64 ya0_0) rfl
      have kaH_4 := BxaH.out.cell (j := 4) (v := .int .i64 ya0_1) rfl
      have kaH_5 := BxaH.out.cell (j := 5) (v := .int .i64 ya0_2) rfl
      have kaH_6 := BxaH.out.cell (j := 6) (v := .int .i64 ya0_3) rfl
      have kaD_0 := BxaD.out.cell (j := 0) (v := .int .i64 ya1_0) rfl
      have kaD_1 := BxaD.out.cell (j := 1) (v := .int .i64 ya1_1) rfl
      have kaD_2 := BxaD.out.cell (j := 2) (v := .int .i64 ya1_2) rfl
      have kw0_0 := Bxw0.out.cell (j := 0) (v := .slice p3_0 q3_0 r3_0) rfl
      have kw0_1 := Bxw0.out.cell (j := 1) (v := .slice p3_1 q3_1 r3_1) rfl
      have kw0_2 := Bxw0.out.cell (j := 2) (v := .slice p3_2 q3_2 r3_2) rfl
      have kw0_3 := Bxw0.out.cell (j := 3) (v := .int .i64 ((dV (dealB xa0_0 xa0_1 xa0_2 ya0_0 ya0_1 ya0_2 ya0_3 ya1_0 ya1_1 ya1_2) (dAt ya0_0 ya1_0 ya1_1)))) rfl
      have kw0_4 := Bxw0.out.cell (j := 4) (v := .int .i64 ((dV (dealB xa0_0 xa0_1 xa0_2 ya0_0 ya0_1 ya0_2 ya0_3 ya1_0 ya1_1 ya1_2) (dSt ya0_1 ya1_0 ya1_1)))) rfl
      have kw0_5 := Bxw0.out.cell (j := 5) (v := .int .i64 ((dV (dealB xa0_0 xa0_1 xa0_2 ya0_0 ya0_1 ya0_2 ya0_3 ya1_0 ya1_1 ya1_2) (dPu xa0_2 ya0_0 ya0_1 ya0_2 ya1_0 ya1_1)))) rfl
      have kw0_6 := Bxw0.out.cell (j := 6) (v := .int .i64 ((dV (dealB xa0_0 xa0_1 xa0_2 ya0_0 ya0_1 ya0_2 ya0_3 ya1_0 ya1_1 ya1_2) (ya0_3 + 1)))) rfl
      have kx0_0 := Bxx0.out.cell (j := 0) (v := .slice p4_0 q4_0 r4_0) rfl
      have kx0_1 := Bxx0.out.cell (j := 1) (v := .slice p4_1 q4_1 r4_1) rfl
      have kx0_2 := Bxx0.out.cell (j := 2) (v := .slice p4_2 q4_2 r4_2) rfl
      have kx0_3 := Bxx0.out.cell (j := 3) (v := .int .i64 (ya0_0)) rfl
      have kx0_4 := Bxx0.out.cell (j := 4) (v := .int .i64 (ya0_1)) rfl
      have kx0_5 := Bxx0.out.cell (j := 5) (v := .int .i64 (ya0_2)) rfl
      have kx0_6 := Bxx0.out.cell (j := 6) (v := .int .i64 (ya0_3)) rfl
      have kg0_0 := Bxg0.out.cell (j := 0) (v := .slice p7_0 q7_0 r7_0) rfl
      have kg0_1 := Bxg0.out.cell (j := 1) (v := .slice p7_1 q7_1 r7_1) rfl
      have kg0_2 := Bxg0.out.cell (j := 2) (v := .slice p7_2 q7_2 r7_2) rfl
      have kg0_3 := Bxg0.out.cell (j := 3) (v := .int .i64 ((dV (dealB xa0_0 xa0_1 xa0_2 ya0_0 ya0_1 ya0_2 ya0_3 ya1_0 ya1_1 ya1_2) (dAt ya0_0 ya1_0 ya1_1)))) rfl
      have kg0_4 := Bxg0.out.cell (j := 4) (v := .int .i64 ((dV (dealB xa0_0 xa0_1 xa0_2 ya0_0 ya0_1 ya0_2 ya0_3 ya1_0 ya1_1 ya1_2) (dSt ya0_1 ya1_0 ya1_1)))) rfl
      have kg0_5 := Bxg0.out.cell (j := 5) (v := .int .i64 ((dV (dealB xa0_0 xa0_1 xa0_2 ya0_0 ya0_1 ya0_2 ya0_3 ya1_0 ya1_1 ya1_2) (dPu xa0_2 ya0_0 ya0_1 ya0_2 ya1_0 ya1_1)))) rfl
      have kg0_6 := Bxg0.out.cell (j := 6) (v := .int .i64 ((dV (dealB xa0_0 xa0_1 xa0_2 ya0_0 ya0_1 ya0_2 ya0_3 ya1_0 ya1_1 ya1_2) (ya0_3 + 1)))) rfl
      have hFx := hF
      go_wp2_with fail
      clear kaH_0 kaH_1 kaH_2 kaH_3 kaH_4 kaH_5 kaH_6 kaD_0 kaD_1 kaD_2 kw0_0 kw0_1 kw0_2 kw0_3 kw0_4 kw0_5 kw0_6 kx0_0 kx0_1 kx0_2 kx0_3 kx0_4 kx0_5 kx0_6 kg0_0 kg0_1 kg0_2 kg0_3 kg0_4 kg0_5 kg0_6
      refine (eqHouse_same _ _ _ _ _ _ _ _ _ _ _ _ _ _ _ _ _ _ _ _ _ _ _ _ _ _ o7_0.sl o7_1.sl o7_2.sl o3_0.sl o3_1.sl o3_2.sl).mono ?_
      rintro e w8 ⟨rfl, f8⟩
      replace BxaH := Lib.hid (BxaH.out.fr f8)
      replace BxaD := Lib.hid (BxaD.out.fr f8)
      replace Bxw0 := Lib.hid (Bxw0.out.fr f8)
      replace Bxx0 := Lib.hid (Bxx0.out.fr f8)
      replace Bxg0 := Lib.hid (Bxg0.out.fr f8)
      replace o3_0 := o3_0.fr f8
      replace o3_1 := o3_1.fr f8
      replace o3_2 := o3_2.fr f8
      replace o4_0 := o4_0.fr f8
      replace o4_1 := o4_1.fr f8
      replace o4_2 := o4_2.fr f8
      replace o7_0 := o7_0.fr f8
      replace o7_1 := o7_1.fr f8
      replace o7_2 := o7_2.fr f8
      have z8 := f8.size
      replace hF := hF.trans f8
      clear f8
      have kaH_0 := BxaH.out.cell (j := 0) (v := .slice pa0_0 qa0_0 ra0_0) rfl
      have kaH_1 := BxaH.out.cell (j := 1) (v := .slice pa0_1 qa0_1 ra0_1) rfl
      have kaH_2 := BxaH.out.cell (j := 2) (v := .slice pa0_2 qa0_2 ra0_2) rfl
      have kaH_3 := BxaH.out.cell (j := 3) (v := .int .i64 ya0_0) rfl
      have kaH_4 := BxaH.out.cell (j := 4) (v := .int .i64 ya0_1) rfl
      have kaH_5 := BxaH.out.cell (j := 5) (v := .int .i64 ya0_2) rfl
      have kaH_6 := BxaH.out.cell (j := 6) (v := .int .i64 ya0_3) rfl
      have kaD_0 := BxaD.out.cell (j := 0) (v := .int .i64 ya1_0) rfl
      have kaD_1 := BxaD.out.cell (j := 1) (v := .int .i64 ya1_1) rfl
      have kaD_2 := BxaD.out.cell (j := 2) (v := .int .i64 ya1_2) rfl
      have kw0_0 := Bxw0.out.cell (j := 0) (v := .slice p3_0 q3_0 r3_0) rfl
      have kw0_1 := Bxw0.out.cell (j := 1) (v := .slice p3_1 q3_1 r3_1) rfl
      have kw0_2 := Bxw0.out.cell (j := 2) (v := .slice p3_2 q3_2 r3_2) rfl
      have kw0_3 := Bxw0.out.cell (j := 3) (v := .int .i64 ((dV (dealB xa0_0 xa0_1 xa0_2 ya0_0 ya0_1 ya0_2 ya0_3 ya1_0 ya1_1 ya1_2) (dAt ya0_0 ya1_0 ya1_1)))) rfl
      have kw0_4 := Bxw0.out.cell (j := 4) (v := .int .i64 ((dV (dealB xa0_0 xa0_1 xa0_2 ya0_0 ya0_1 ya0_2 ya0_3 ya1_0 ya1_1 ya1_2) (dSt ya0_1 ya1_0 ya1_1)))) rfl
      have kw0_5 := Bxw0.out.cell (j := 5) (v := .int .i64 ((dV (dealB xa0_0 xa0_1 xa0_2 ya0_0 ya0_1 ya0_2 ya0_3 ya1_0 ya1_1 ya1_2) (dPu xa0_2 ya0_0 ya0_1 ya0_2 ya1_0 ya1_1)))) rfl
      have kw0_6 := Bxw0.out.cell (j := 6) (v := .int .i64 ((dV (dealB xa0_0 xa0_1 xa0_2 ya0_0 ya0_1 ya0_2 ya0_3 ya1_0 ya1_1 ya1_2) (ya0_3 + 1)))) rfl
      have kx0_0 := Bxx0.out.cell (j := 0) (v := .slice p4_0 q4_0 r4_0) rfl
      have kx0_1 := Bxx0.out.cell (j := 1) (v := .slice p4_1 q4_1 r4_1) rfl
      have kx0_2 := Bxx0.out.cell (j := 2) (v := .slice p4_2 q4_2 r4_2) rfl
      have kx0_3 := Bxx0.out.cell (j := 3) (v := .int .i64 (ya0_0)) rfl
      have kx0_4 := Bxx0.out.cell (j := 4) (v := .int .i64 (ya0_1)) rfl
      have kx0_5 := Bxx0.out.cell (j := 5) (v := .int .i64 (ya0_2)) rfl
      have kx0_6 := Bxx0.out.cell (j := 6) (v := .int .i64 (ya0_3)) rfl
      have kg0_0 := Bxg0.out.cell (j := 0) (v := .slice p7_0 q7_0 r7_0) rfl
      have kg0_1 := Bxg0.out.cell (j := 1) (v := .slice p7_1 q7_1 r7_1) rfl
      have kg0_2 := Bxg0.out.cell (j := 2) (v := .slice p7_2 q7_2 r7_2) rfl
      have kg0_3 := Bxg0.out.cell (j := 3) (v := .int .i64 ((dV (dealB xa0_0 xa0_1 xa0_2 ya0_0 ya0_1 ya0_2 ya0_3 ya1_0 ya1_1 ya1_2) (dAt ya0_0 ya1_0 ya1_1)))) rfl
      have kg0_4 := Bxg0.out.cell (j := 4) (v := .int .i64 ((dV (dealB xa0_0 xa0_1 xa0_2 ya0_0 ya0_1 ya0_2 ya0_3 ya1_0 ya1_1 ya1_2) (dSt ya0_1 ya1_0 ya1_1)))) rfl
      have kg0_5 := Bxg0.out.cell (j := 5) (v := .int .i64 ((dV (dealB xa0_0 xa0_1 xa0_2 ya0_0 ya0_1 ya0_2 ya0_3 ya1_0 ya1_1 ya1_2) (dPu xa0_2 ya0_0 ya0_1 ya0_2 ya1_0 ya1_1)))) rfl
      have kg0_6 := Bxg0.out.cell (j := 6) (v := .int .i64 ((dV (dealB xa0_0 xa0_1 xa0_2 ya0_0 ya0_1 ya0_2 ya0_3 ya1_0 ya1_1 ya1_2) (ya0_3 + 1)))) rfl
      clear hFx
      go_wp2
      clear kaH_0 kaH_1 kaH_2 kaH_3 kaH_4 kaH_5 kaH_6 kaD_0 kaD_1 kaD_2 kw0_0 kw0_1 kw0_2 kw0_3 kw0_4 kw0_5 kw0_6 kx0_0 kx0_1 kx0_2 kx0_3 kx0_4 kx0_5 kx0_6 kg0_0 kg0_1 kg0_2 kg0_3 kg0_4 kg0_5 kg0_6
      have kx0_0 := Bxx0.out.cell (j := 0) (v := .slice p4_0 q4_0 r4_0) rfl
      have kx0_1 := Bxx0.out.cell (j := 1) (v := .slice p4_1 q4_1 r4_1) rfl
      have kx0_2 := Bxx0.out.cell (j := 2) (v := .slice p4_2 q4_2 r4_2) rfl
      have kx0_3 := Bxx0.out.cell (j := 3) (v := .int .i64 (ya0_0)) rfl
      have kx0_4 := Bxx0.out.cell (j := 4) (v := .int .i64 (ya0_1)) rfl
      have kx0_5 := Bxx0.out.cell (j := 5) (v := .int .i64 (ya0_2)) rfl
      have kx0_6 := Bxx0.out.cell (j := 6) (v := .int .i64 (ya0_3)) rfl
      have kaH_0 := BxaH.out.cell (j := 0) (v := .slice pa0_0 qa0_0 ra0_0) rfl
      have kaH_1 := BxaH.out.cell (j := 1) (v := .slice pa0_1 qa0_1 ra0_1) rfl
      have kaH_2 := BxaH.out.cell (j := 2) (v := .slice pa0_2 qa0_2 ra0_2) rfl
      have kaH_3 := BxaH.out.cell (j := 3) (v := .int .i64 ya0_0) rfl
      have kaH_4 := BxaH.out.cell (j := 4) (v := .int .i64 ya0_1) rfl
      have kaH_5 := BxaH.out.cell (j := 5) (v := .int .i64 ya0_2) rfl
      have kaH_6 := BxaH.out.cell (j := 6) (v := .int .i64 ya0_3) rfl
      have ta0_0 := (sa0_0.fr hF).drewN 1
      have ta0_1 := (sa0_1.fr hF).drewN 1
      have ta0_2 := (sa0_2.fr hF).drewN 1
      go_region_held3 (fun w' => w'.cell? ⟨w4.heap.size, 0, none⟩ = some (.slice p4_0 q4_0 r4_0) ∧ w'.cell? ⟨w4.heap.size, 1, none⟩ = some (.slice p4_1 q4_1 r4_1) ∧ w'.cell? ⟨w4.heap.size, 2, none⟩ = some (.slice p4_2 q4_2 r4_2) ∧ w'.cell? ⟨w4.heap.size, 3, none⟩ = some (.int .i64 (ya0_0)) ∧ w'.cell? ⟨w4.heap.size, 4, none⟩ = some (.int .i64 (ya0_1)) ∧ w'.cell? ⟨w4.heap.size, 5, none⟩ = some (.int .i64 (ya0_2)) ∧ w'.cell? ⟨w4.heap.size, 6, none⟩ = some (.int .i64 (ya0_3)) ∧ w'.cell? ⟨w.heap.size, 0, none⟩ = some (.slice pa0_0 qa0_0 ra0_0) ∧ w'.cell? ⟨w.heap.size, 1, none⟩ = some (.slice pa0_1 qa0_1 ra0_1) ∧ w'.cell? ⟨w.heap.size, 2, none⟩ = some (.slice pa0_2 qa0_2 ra0_2) ∧ w'.cell? ⟨w.heap.size, 3, none⟩ = some (.int .i64 ya0_0) ∧ w'.cell? ⟨w.heap.size, 4, none⟩ = some (.int .i64 ya0_1) ∧ w'.cell? ⟨w.heap.size, 5, none⟩ = some (.int .i64 ya0_2) ∧ w'.cell? ⟨w.heap.size, 6, none⟩ = some (.int .i64 ya0_3))
          (first
            | go_keep
            | (exact ⟨f10.keep (f9.keep kx0_0), f10.keep (f9.keep kx0_1), f10.keep (f9.keep kx0_2), f10.keep (f9.keep kx0_3), f10.keep (f9.keep kx0_4), f10.keep (f9.keep kx0_5), f10.keep (f9.keep kx0_6), f10.keep (f9.keep kaH_0), f10.keep (f9.keep kaH_1), f10.keep (f9.keep kaH_2), f10.keep (f9.keep kaH_3), f10.keep (f9.keep kaH_4), f10.keep (f9.keep kaH_5), f10.keep (f9.keep kaH_6)⟩)
            | (exact ⟨f9.keep kx0_0, f9.keep kx0_1, f9.keep kx0_2, f9.keep kx0_3, f9.keep kx0_4, f9.keep kx0_5, f9.keep kx0_6, f9.keep kaH_0, f9.keep kaH_1, f9.keep kaH_2, f9.keep kaH_3, f9.keep kaH_4, f9.keep kaH_5, f9.keep kaH_6⟩))
          (first
            | (go_at_call 17; refine (toHouse_any _ _ _ _ _ _ _ _ _ _ _ _ _ _ _ _ _ ta0_0 ta0_1 ta0_2 (by omega) (by omega) (by omega)).mono ?_; rintro e w9 ⟨p9_0, q9_0, r9_0, p9_1, q9_1, r9_1, p9_2, q9_2, r9_2, M9_0, M9_1, rfl, o9_0, o9_1, o9_2, l9_0, l9_1, y9_0, y9_1, y9_2, f9, e9_0, e9_1, e9_2⟩)
            | (go_at_call 19; refine (eqHouse_same _ _ _ _ _ _ _ _ _ _ _ _ _ _ _ _ _ _ _ _ _ _ _ _ _ _ ((o4_0.drewN 1).fr f9).sl ((o4_1.drewN 1).fr f9).sl ((o4_2.drewN 1).fr f9).sl o9_0.sl o9_1.sl o9_2.sl).mono ?_; rintro e w10 ⟨rfl, f10⟩))
      clear kx0_0 kx0_1 kx0_2 kx0_3 kx0_4 kx0_5 kx0_6 kaH_0 kaH_1 kaH_2 kaH_3 kaH_4 kaH_5 kaH_6 ta0_0 ta0_1 ta0_2
      have ff10 := ((Fr.drewN _ 1).trans f9).trans f10
      replace BxaH := Lib.hid (BxaH.out.fr ff10)
      replace BxaD := Lib.hid (BxaD.out.fr ff10)
      replace Bxw0 := Lib.hid (Bxw0.out.fr ff10)
      replace Bxx0 := Lib.hid (Bxx0.out.fr ff10)
      replace Bxg0 := Lib.hid (Bxg0.out.fr ff10)
      replace o3_0 := o3_0.fr ff10
      replace o3_1 := o3_1.fr ff10
      replace o3_2 := o3_2.fr ff10
      replace o4_0 := o4_0.fr ff10
      replace o4_1 := o4_1.fr ff10
      replace o4_2 := o4_2.fr ff10
      replace o7_0 := o7_0.fr ff10
      replace o7_1 := o7_1.fr ff10
      replace o7_2 := o7_2.fr ff10
      have z10 := ff10.size
      replace hF := hF.trans ff10
      clear ff10 f9 f10 o9_0 o9_1 o9_2 l9_0 l9_1
      have kaH_0 := BxaH.out.cell (j := 0) (v := .slice pa0_0 qa0_0 ra0_0) rfl
      have kaH_1 := BxaH.out.cell (j := 1) (v := .slice pa0_1 qa0_1 ra0_1) rfl
      have kaH_2 := BxaH.out.cell (j := 2) (v := .slice pa0_2 qa0_2 ra0_2) rfl
      have kaH_3 := BxaH.out.cell (j := 3) (v := .int .i64 ya0_0) rfl
      have kaH_4 := BxaH.out.cell (j := 4) (v := .int .i64 ya0_1) rfl
      have kaH_5 := BxaH.out.cell (j := 5) (v := .int .i64 ya0_2) rfl
      have kaH_6 := BxaH.out.cell (j := 6) (v := .int .i64 ya0_3) rfl
      have kaD_0 := BxaD.out.cell (j := 0) (v := .int .i64 ya1_0) rfl
      have kaD_1 := BxaD.out.cell (j := 1) (v := .int .i64 ya1_1) rfl
      have kaD_2 := BxaD.out.cell (j := 2) (v := .int .i64 ya1_2) rfl
      have kw0_0 := Bxw0.out.cell (j := 0) (v := .slice p3_0 q3_0 r3_0) rfl
      have kw0_1 := Bxw0.out.cell (j := 1) (v := .slice p3_1 q3_1 r3_1) rfl
      have kw0_2 := Bxw0.out.cell (j := 2) (v := .slice p3_2 q3_2 r3_2) rfl
      have kw0_3 := Bxw0.out.cell (j := 3) (v := .int .i64 ((dV (dealB xa0_0 xa0_1 xa0_2 ya0_0 ya0_1 ya0_2 ya0_3 ya1_0 ya1_1 ya1_2) (dAt ya0_0 ya1_0 ya1_1)))) rfl
      have kw0_4 := Bxw0.out.cell (j := 4) (v := .int .i64 ((dV (dealB xa0_0 xa0_1 xa0_2 ya0_0 ya0_1 ya0_2 ya0_3 ya1_0 ya1_1 ya1_2) (dSt ya0_1 ya1_0 ya1_1)))) rfl
      have kw0_5 := Bxw0.out.cell (j := 5) (v := .int .i64 ((dV (dealB xa0_0 xa0_1 xa0_2 ya0_0 ya0_1 ya0_2 ya0_3 ya1_0 ya1_1 ya1_2) (dPu xa0_2 ya0_0 ya0_1 ya0_2 ya1_0 ya1_1)))) rfl
      have kw0_6 := Bxw0.out.cell (j := 6) (v := .int .i64 ((dV (dealB xa0_0 xa0_1 xa0_2 ya0_0 ya0_1 ya0_2 ya0_3 ya1_0 ya1_1 ya1_2) (ya0_3 + 1)))) rfl
      have kx0_0 := Bxx0.out.cell (j := 0) (v := .slice p4_0 q4_0 r4_0) rfl
      have kx0_1 := Bxx0.out.cell (j := 1) (v := .slice p4_1 q4_1 r4_1) rfl
      have kx0_2 := Bxx0.out.cell (j := 2) (v := .slice p4_2 q4_2 r4_2) rfl
      have kx0_3 := Bxx0.out.cell (j := 3) (v := .int .i64 (ya0_0)) rfl
      have kx0_4 := Bxx0.out.cell (j := 4) (v := .int .i64 (ya0_1)) rfl
      have kx0_5 := Bxx0.out.cell (j := 5) (v := .int .i64 (ya0_2)) rfl
      have kx0_6 := Bxx0.out.cell (j := 6) (v := .int .i64 (ya0_3)) rfl
      have kg0_0 := Bxg0.out.cell (j := 0) (v := .slice p7_0 q7_0 r7_0) rfl
      have kg0_1 := Bxg0.out.cell (j := 1) (v := .slice p7_1 q7_1 r7_1) rfl
      have kg0_2 := Bxg0.out.cell (j := 2) (v := .slice p7_2 q7_2 r7_2) rfl
      have kg0_3 := Bxg0.out.cell (j := 3) (v := .int .i64 ((dV (dealB xa0_0 xa0_1 xa0_2 ya0_0 ya0_1 ya0_2 ya0_3 ya1_0 ya1_1 ya1_2) (dAt ya0_0 ya1_0 ya1_1)))) rfl
      have kg0_4 := Bxg0.out.cell (j := 4) (v := .int .i64 ((dV (dealB xa0_0 xa0_1 xa0_2 ya0_0 ya0_1 ya0_2 ya0_3 ya1_0 ya1_1 ya1_2) (dSt ya0_1 ya1_0 ya1_1)))) rfl
      have kg0_5 := Bxg0.out.cell (j := 5) (v := .int .i64 ((dV (dealB xa0_0 xa0_1 xa0_2 ya0_0 ya0_1 ya0_2 ya0_3 ya1_0 ya1_1 ya1_2) (dPu xa0_2 ya0_0 ya0_1 ya0_2 ya1_0 ya1_1)))) rfl
      have kg0_6 := Bxg0.out.cell (j := 6) (v := .int .i64 ((dV (dealB xa0_0 xa0_1 xa0_2 ya0_0 ya0_1 ya0_2 ya0_3 ya1_0 ya1_1 ya1_2) (ya0_3 + 1)))) rfl
      go_wp2_with fail
      clear kaH_0 kaH_1 kaH_2 kaH_3 kaH_4 kaH_5 kaH_6 kaD_0 kaD_1 kaD_2 kw0_0 kw0_1 kw0_2 kw0_3 kw0_4 kw0_5 kw0_6 kx0_0 kx0_1 kx0_2 kx0_3 kx0_4 kx0_5 kx0_6 kg0_0 kg0_1 kg0_2 kg0_3 kg0_4 kg0_5 kg0_6
      refine (markHouse_any _ _ _ _ _ _ _ _ _ _ _ _ _ _ _ _ _ _ _ _ _ 1 o4_0 o4_1 o4_2 l4_0 l4_1 l4_2 (by omega) (by omega) (by omega) (by omega) (by omega) (by omega) (by omega) (by omega) (by omega)).mono ?_
      rintro e w11 ⟨rfl, oo0, oo1, oo2, G11⟩
      replace BxaH := Lib.hid (BxaH.out.skipIn G11 (by omega))
      replace BxaD := Lib.hid (BxaD.out.skipIn G11 (by omega))
      replace Bxw0 := Lib.hid (Bxw0.out.skipIn G11 (by omega))
      replace Bxx0 := Lib.hid (Bxx0.out.skipIn G11 (by omega))
      replace Bxg0 := Lib.hid (Bxg0.out.skipIn G11 (by omega))
      replace o3_0 := o3_0.skipSS G11 l3_0 (by omega)
      replace o3_1 := o3_1.skipSS G11 l3_1 (by omega)
      replace o3_2 := o3_2.skipSS G11 l3_2 (by omega)
      replace o7_0 := o7_0.skipSS G11 l7_0 (by omega)
      replace o7_1 := o7_1.skipSS G11 l7_1 (by omega)
      replace o7_2 := o7_2.skipSS G11 l7_2 (by omega)
      have z11 := G11.size
      replace hF := hF.grownSS G11 (by omega)
      clear G11 o4_0 o4_1 o4_2
      have o4_0 := oo0
      clear oo0
      have o4_1 := oo1
      clear oo1
      have o4_2 := oo2
      clear oo2
      have kaH_0 := BxaH.out.cell (j := 0) (v := .slice pa0_0 qa0_0 ra0_0) rfl
      have kaH_1 := BxaH.out.cell (j := 1) (v := .slice pa0_1 qa0_1 ra0_1) rfl
      have kaH_2 := BxaH.out.cell (j := 2) (v := .slice pa0_2 qa0_2 ra0_2) rfl
      have kaH_3 := BxaH.out.cell (j := 3) (v := .int .i64 ya0_0) rfl
      have kaH_4 := BxaH.out.cell (j := 4) (v := .int .i64 ya0_1) rfl
      have kaH_5 := BxaH.out.cell (j := 5) (v := .int .i64 ya0_2) rfl
      have kaH_6 := BxaH.out.cell (j := 6) (v := .int .i64 ya0_3) rfl
      have kaD_0 := BxaD.out.cell (j := 0) (v := .int .i64 ya1_0) rfl
      have kaD_1 := BxaD.out.cell (j := 1) (v := .int .i64 ya1_1) rfl
      have kaD_2 := BxaD.out.cell (j := 2) (v := .int .i64 ya1_2) rfl
      have kw0_0 := Bxw0.out.cell (j := 0) (v := .slice p3_0 q3_0 r3_0) rfl
      have kw0_1 := Bxw0.out.cell (j := 1) (v := .slice p3_1 q3_1 r3_1) rfl
      have kw0_2 := Bxw0.out.cell (j := 2) (v := .slice p3_2 q3_2 r3_2) rfl
      have kw0_3 := Bxw0.out.cell (j := 3) (v := .int .i64 ((dV (dealB xa0_0 xa0_1 xa0_2 ya0_0 ya0_1 ya0_2 ya0_3 ya1_0 ya1_1 ya1_2) (dAt ya0_0 ya1_0 ya1_1)))) rfl
      have kw0_4 := Bxw0.out.cell (j := 4) (v := .int .i64 ((dV (dealB xa0_0 xa0_1 xa0_2 ya0_0 ya0_1 ya0_2 ya0_3 ya1_0 ya1_1 ya1_2) (dSt ya0_1 ya1_0 ya1_1)))) rfl
      have kw0_5 := Bxw0.out.cell (j := 5) (v := .int .i64 ((dV (dealB xa0_0 xa0_1 xa0_2 ya0_0 ya0_1 ya0_2 ya0_3 ya1_0 ya1_1 ya1_2) (dPu xa0_2 ya0_0 ya0_1 ya0_2 ya1_0 ya1_1)))) rfl
      have kw0_6 := Bxw0.out.cell (j := 6) (v := .int .i64 ((dV (dealB xa0_0 xa0_1 xa0_2 ya0_0 ya0_1 ya0_2 ya0_3 ya1_0 ya1_1 ya1_2) (ya0_3 + 1)))) rfl
      have kx0_0 := Bxx0.out.cell (j := 0) (v := .slice p4_0 q4_0 r4_0) rfl
      have kx0_1 := Bxx0.out.cell (j := 1) (v := .slice p4_1 q4_1 r4_1) rfl
      have kx0_2 := Bxx0.out.cell (j := 2) (v := .slice p4_2 q4_2 r4_2) rfl
      have kx0_3 := Bxx0.out.cell (j := 3) (v := .int .i64 (ya0_0)) rfl
      have kx0_4 := Bxx0.out.cell (j := 4) (v := .int .i64 (ya0_1)) rfl
      have kx0_5 := Bxx0.out.cell (j := 5) (v := .int .i64 (ya0_2)) rfl
      have kx0_6 := Bxx0.out.cell (j := 6) (v := .int .i64 (ya0_3)) rfl
      have kg0_0 := Bxg0.out.cell (j := 0) (v := .slice p7_0 q7_0 r7_0) rfl
      have kg0_1 := Bxg0.out.cell (j := 1) (v := .slice p7_1 q7_1 r7_1) rfl
      have kg0_2 := Bxg0.out.cell (j := 2) (v := .slice p7_2 q7_2 r7_2) rfl
      have kg0_3 := Bxg0.out.cell (j := 3) (v := .int .i64 ((dV (dealB xa0_0 xa0_1 xa0_2 ya0_0 ya0_1 ya0_2 ya0_3 ya1_0 ya1_1 ya1_2) (dAt ya0_0 ya1_0 ya1_1)))) rfl
      have kg0_4 := Bxg0.out.cell (j := 4) (v := .int .i64 ((dV (dealB xa0_0 xa0_1 xa0_2 ya0_0 ya0_1 ya0_2 ya0_3 ya1_0 ya1_1 ya1_2) (dSt ya0_1 ya1_0 ya1_1)))) rfl
      have kg0_5 := Bxg0.out.cell (j := 5) (v := .int .i64 ((dV (dealB xa0_0 xa0_1 xa0_2 ya0_0 ya0_1 ya0_2 ya0_3 ya1_0 ya1_1 ya1_2) (dPu xa0_2 ya0_0 ya0_1 ya0_2 ya1_0 ya1_1)))) rfl
      have kg0_6 := Bxg0.out.cell (j := 6) (v := .int .i64 ((dV (dealB xa0_0 xa0_1 xa0_2 ya0_0 ya0_1 ya0_2 ya0_3 ya1_0 ya1_1 ya1_2) (ya0_3 + 1)))) rfl
      have hFx := hF
      go_wp2_with fail
      clear kaH_0 kaH_1 kaH_2 kaH_3 kaH_4 kaH_5 kaH_6 kaD_0 kaD_1 kaD_2 kw0_0 kw0_1 kw0_2 kw0_3 kw0_4 kw0_5 kw0_6 kx0_0 kx0_1 kx0_2 kx0_3 kx0_4 kx0_5 kx0_6 kg0_0 kg0_1 kg0_2 kg0_3 kg0_4 kg0_5 kg0_6
      refine (eqHouse_same _ _ _ _ _ _ _ _ _ _ _ _ _ _ _ _ _ _ _ _ _ _ _ _ _ _ o7_0.sl o7_1.sl o7_2.sl o3_0.sl o3_1.sl o3_2.sl).mono ?_
      rintro e w12 ⟨rfl, f12⟩
      replace BxaH := Lib.hid (BxaH.out.fr f12)
      replace BxaD := Lib.hid (BxaD.out.fr f12)
      replace Bxw0 := Lib.hid (Bxw0.out.fr f12)
      replace Bxx0 := Lib.hid (Bxx0.out.fr f12)
      replace Bxg0 := Lib.hid (Bxg0.out.fr f12)
      replace o3_0 := o3_0.fr f12
      replace o3_1 := o3_1.fr f12
      replace o3_2 := o3_2.fr f12
      replace o4_0 := o4_0.fr f12
      replace o4_1 := o4_1.fr f12
      replace o4_2 := o4_2.fr f12
      replace o7_0 := o7_0.fr f12
      replace o7_1 := o7_1.fr f12
      replace o7_2 := o7_2.fr f12
      have z12 := f12.size
      replace hF := hF.trans f12
      clear f12
      have kaH_0 := BxaH.out.cell (j := 0) (v := .slice pa0_0 qa0_0 ra0_0) rfl
      have kaH_1 := BxaH.out.cell (j := 1) (v := .slice pa0_1 qa0_1 ra0_1) rfl
      have kaH_2 := BxaH.out.cell (j := 2) (v := .slice pa0_2 qa0_2 ra0_2) rfl
      have kaH_3 := BxaH.out.cell (j := 3) (v := .int .i64 ya0_0) rfl
      have kaH_4 := BxaH.out.cell (j := 4) (v := .int .i64 ya0_1) rfl
      have kaH_5 := BxaH.out.cell (j := 5) (v := .int .i64 ya0_2) rfl
      have kaH_6 := BxaH.out.cell (j := 6) (v := .int .i64 ya0_3) rfl
      have kaD_0 := BxaD.out.cell (j := 0) (v := .int .i64 ya1_0) rfl
      have kaD_1 := BxaD.out.cell (j := 1) (v := .int .i64 ya1_1) rfl
      have kaD_2 := BxaD.out.cell (j := 2) (v := .int .i64 ya1_2) rfl
      have kw0_0 := Bxw0.out.cell (j := 0) (v := .slice p3_0 q3_0 r3_0) rfl
      have kw0_1 := Bxw0.out.cell (j := 1) (v := .slice p3_1 q3_1 r3_1) rfl
      have kw0_2 := Bxw0.out.cell (j := 2) (v := .slice p3_2 q3_2 r3_2) rfl
      have kw0_3 := Bxw0.out.cell (j := 3) (v := .int .i64 ((dV (dealB xa0_0 xa0_1 xa0_2 ya0_0 ya0_1 ya0_2 ya0_3 ya1_0 ya1_1 ya1_2) (dAt ya0_0 ya1_0 ya1_1)))) rfl
      have kw0_4 := Bxw0.out.cell (j := 4) (v := .int .i64 ((dV (dealB xa0_0 xa0_1 xa0_2 ya0_0 ya0_1 ya0_2 ya0_3 ya1_0 ya1_1 ya1_2) (dSt ya0_1 ya1_0 ya1_1)))) rfl
      have kw0_5 := Bxw0.out.cell (j := 5) (v := .int .i64 ((dV (dealB xa0_0 xa0_1 xa0_2 ya0_0 ya0_1 ya0_2 ya0_3 ya1_0 ya1_1 ya1_2) (dPu xa0_2 ya0_0 ya0_1 ya0_2 ya1_0 ya1_1)))) rfl
      have kw0_6 := Bxw0.out.cell (j := 6) (v := .int .i64 ((dV (dealB xa0_0 xa0_1 xa0_2 ya0_0 ya0_1 ya0_2 ya0_3 ya1_0 ya1_1 ya1_2) (ya0_3 + 1)))) rfl
      have kg0_0 := Bxg0.out.cell (j := 0) (v := .slice p7_0 q7_0 r7_0) rfl
      have kg0_1 := Bxg0.out.cell (j := 1) (v := .slice p7_1 q7_1 r7_1) rfl
      have kg0_2 := Bxg0.out.cell (j := 2) (v := .slice p7_2 q7_2 r7_2) rfl
      have kg0_3 := Bxg0.out.cell (j := 3) (v := .int .i64 ((dV (dealB xa0_0 xa0_1 xa0_2 ya0_0 ya0_1 ya0_2 ya0_3 ya1_0 ya1_1 ya1_2) (dAt ya0_0 ya1_0 ya1_1)))) rfl
      have kg0_4 := Bxg0.out.cell (j := 4) (v := .int .i64 ((dV (dealB xa0_0 xa0_1 xa0_2 ya0_0 ya0_1 ya0_2 ya0_3 ya1_0 ya1_1 ya1_2) (dSt ya0_1 ya1_0 ya1_1)))) rfl
      have kg0_5 := Bxg0.out.cell (j := 5) (v := .int .i64 ((dV (dealB xa0_0 xa0_1 xa0_2 ya0_0 ya0_1 ya0_2 ya0_3 ya1_0 ya1_1 ya1_2) (dPu xa0_2 ya0_0 ya0_1 ya0_2 ya1_0 ya1_1)))) rfl
      have kg0_6 := Bxg0.out.cell (j := 6) (v := .int .i64 ((dV (dealB xa0_0 xa0_1 xa0_2 ya0_0 ya0_1 ya0_2 ya0_3 ya1_0 ya1_1 ya1_2) (ya0_3 + 1)))) rfl
      clear hFx
      go_wp2_with fail
      clear kaH_0 kaH_1 kaH_2 kaH_3 kaH_4 kaH_5 kaH_6 kaD_0 kaD_1 kaD_2 kw0_0 kw0_1 kw0_2 kw0_3 kw0_4 kw0_5 kw0_6 kg0_0 kg0_1 kg0_2 kg0_3 kg0_4 kg0_5 kg0_6
      refine (markHouse_any _ _ _ _ _ _ _ _ _ _ _ _ _ _ _ _ _ _ _ _ _ 1 o7_0 o7_1 o7_2 l7_0 l7_1 l7_2 (by omega) (by omega) (by omega) (by omega) (by omega) (by omega) (by omega) (by omega) (by omega)).mono ?_
      rintro e w13 ⟨rfl, oo0, oo1, oo2, G13⟩
      replace BxaH := Lib.hid (BxaH.out.skipIn G13 (by omega))
      replace BxaD := Lib.hid (BxaD.out.skipIn G13 (by omega))
      replace Bxw0 := Lib.hid (Bxw0.out.skipIn G13 (by omega))
      replace Bxx0 := Lib.hid (Bxx0.out.skipIn G13 (by omega))
      replace Bxg0 := Lib.hid (Bxg0.out.skipIn G13 (by omega))
      replace o3_0 := o3_0.skipSS G13 l3_0 (by omega)
      replace o3_1 := o3_1.skipSS G13 l3_1 (by omega)
      replace o3_2 := o3_2.skipSS G13 l3_2 (by omega)
      replace o4_0 := o4_0.skipSS G13 l4_0 (by omega)
      replace o4_1 := o4_1.skipSS G13 l4_1 (by omega)
      replace o4_2 := o4_2.skipSS G13 l4_2 (by omega)
      have z13 := G13.size
      replace hF := hF.grownSS G13 (by omega)
      clear G13 o7_0 o7_1 o7_2
      have o7_0 := oo0
      clear oo0
      have o7_1 := oo1
      clear oo1
      have o7_2 := oo2
      clear oo2
      have kaH_0 := BxaH.out.cell (j := 0) (v := .slice pa0_0 qa0_0 ra0_0) rfl
      have kaH_1 := BxaH.out.cell (j := 1) (v := .slice pa0_1 qa0_1 ra0_1) rfl
      have kaH_2 := BxaH.out.cell (j := 2) (v := .slice pa0_2 qa0_2 ra0_2) rfl
      have kaH_3 := BxaH.out.cell (j := 3) (v := .int .i64 ya0_0) rfl
      have kaH_4 := BxaH.out.cell (j := 4) (v := .int .i64 ya0_1) rfl
      have kaH_5 := BxaH.out.cell (j := 5) (v := .int .i64 ya0_2) rfl
      have kaH_6 := BxaH.out.cell (j := 6) (v := .int .i64 ya0_3) rfl
      have kaD_0 := BxaD.out.cell (j := 0) (v := .int .i64 ya1_0) rfl
      have kaD_1 := BxaD.out.cell (j := 1) (v := .int .i64 ya1_1) rfl
      have kaD_2 := BxaD.out.cell (j := 2) (v := .int .i64 ya1_2) rfl
      have kw0_0 := Bxw0.out.cell (j := 0) (v := .slice p3_0 q3_0 r3_0) rfl
      have kw0_1 := Bxw0.out.cell (j := 1) (v := .slice p3_1 q3_1 r3_1) rfl
      have kw0_2 := Bxw0.out.cell (j := 2) (v := .slice p3_2 q3_2 r3_2) rfl
      have kw0_3 := Bxw0.out.cell (j := 3) (v := .int .i64 ((dV (dealB xa0_0 xa0_1 xa0_2 ya0_0 ya0_1 ya0_2 ya0_3 ya1_0 ya1_1 ya1_2) (dAt ya0_0 ya1_0 ya1_1)))) rfl
      have kw0_4 := Bxw0.out.cell (j := 4) (v := .int .i64 ((dV (dealB xa0_0 xa0_1 xa0_2 ya0_0 ya0_1 ya0_2 ya0_3 ya1_0 ya1_1 ya1_2) (dSt ya0_1 ya1_0 ya1_1)))) rfl
      have kw0_5 := Bxw0.out.cell (j := 5) (v := .int .i64 ((dV (dealB xa0_0 xa0_1 xa0_2 ya0_0 ya0_1 ya0_2 ya0_3 ya1_0 ya1_1 ya1_2) (dPu xa0_2 ya0_0 ya0_1 ya0_2 ya1_0 ya1_1)))) rfl
      have kw0_6 := Bxw0.out.cell (j := 6) (v := .int .i64 ((dV (dealB xa0_0 xa0_1 xa0_2 ya0_0 ya0_1 ya0_2 ya0_3 ya1_0 ya1_1 ya1_2) (ya0_3 + 1)))) rfl
      have kg0_0 := Bxg0.out.cell (j := 0) (v := .slice p7_0 q7_0 r7_0) rfl
      have kg0_1 := Bxg0.out.cell (j := 1) (v := .slice p7_1 q7_1 r7_1) rfl
      have kg0_2 := Bxg0.out.cell (j := 2) (v := .slice p7_2 q7_2 r7_2) rfl
      have kg0_3 := Bxg0.out.cell (j := 3) (v := .int .i64 ((dV (dealB xa0_0 xa0_1 xa0_2 ya0_0 ya0_1 ya0_2 ya0_3 ya1_0 ya1_1 ya1_2) (dAt ya0_0 ya1_0 ya1_1)))) rfl
      have kg0_4 := Bxg0.out.cell (j := 4) (v := .int .i64 ((dV (dealB xa0_0 xa0_1 xa0_2 ya0_0 ya0_1 ya0_2 ya0_3 ya1_0 ya1_1 ya1_2) (dSt ya0_1 ya1_0 ya1_1)))) rfl
      have kg0_5 := Bxg0.out.cell (j := 5) (v := .int .i64 ((dV (dealB xa0_0 xa0_1 xa0_2 ya0_0 ya0_1 ya0_2 ya0_3 ya1_0 ya1_1 ya1_2) (dPu xa0_2 ya0_0 ya0_1 ya0_2 ya1_0 ya1_1)))) rfl
      have kg0_6 := Bxg0.out.cell (j := 6) (v := .int .i64 ((dV (dealB xa0_0 xa0_1 xa0_2 ya0_0 ya0_1 ya0_2 ya0_3 ya1_0 ya1_1 ya1_2) (ya0_3 + 1)))) rfl
      go_wp2_with fail
      clear kaH_0 kaH_1 kaH_2 kaH_3 kaH_4 kaH_5 kaH_6 kaD_0 kaD_1 kaD_2 kw0_0 kw0_1 kw0_2 kw0_3 kw0_4 kw0_5 kw0_6 kg0_0 kg0_1 kg0_2 kg0_3 kg0_4 kg0_5 kg0_6
      refine (heldHouse_any _ _ _ _ _ _ _ _ _ _ _ _ _ _ 1 o7_0.sl o7_1.sl o7_2.sl (by omega) (by omega) (by omega) (by omega) (by omega)).mono ?_
      rintro e w14 ⟨rfl, f14⟩
      replace BxaH := Lib.hid (BxaH.out.fr f14)
      replace BxaD := Lib.hid (BxaD.out.fr f14)
      replace Bxw0 := Lib.hid (Bxw0.out.fr f14)
      replace Bxx0 := Lib.hid (Bxx0.out.fr f14)
      replace Bxg0 := Lib.hid (Bxg0.out.fr f14)
      replace o3_0 := o3_0.fr f14
      replace o3_1 := o3_1.fr f14
      replace o3_2 := o3_2.fr f14
      replace o4_0 := o4_0.fr f14
      replace o4_1 := o4_1.fr f14
      replace o4_2 := o4_2.fr f14
      replace o7_0 := o7_0.fr f14
      replace o7_1 := o7_1.fr f14
      replace o7_2 := o7_2.fr f14
      have z14 := f14.size
      replace hF := hF.trans f14
      clear f14
      have kaH_0 := BxaH.out.cell (j := 0) (v := .slice pa0_0 qa0_0 ra0_0) rfl
      have kaH_1 := BxaH.out.cell (j := 1) (v := .slice pa0_1 qa0_1 ra0_1) rfl
      have kaH_2 := BxaH.out.cell (j := 2) (v := .slice pa0_2 qa0_2 ra0_2) rfl
      have kaH_3 := BxaH.out.cell (j := 3) (v := .int .i64 ya0_0) rfl
      have kaH_4 := BxaH.out.cell (j := 4) (v := .int .i64 ya0_1) rfl
      have kaH_5 := BxaH.out.cell (j := 5) (v := .int .i64 ya0_2) rfl
      have kaH_6 := BxaH.out.cell (j := 6) (v := .int .i64 ya0_3) rfl
      have kaD_0 := BxaD.out.cell (j := 0) (v := .int .i64 ya1_0) rfl
      have kaD_1 := BxaD.out.cell (j := 1) (v := .int .i64 ya1_1) rfl
      have kaD_2 := BxaD.out.cell (j := 2) (v := .int .i64 ya1_2) rfl
      have kw0_0 := Bxw0.out.cell (j := 0) (v := .slice p3_0 q3_0 r3_0) rfl
      have kw0_1 := Bxw0.out.cell (j := 1) (v := .slice p3_1 q3_1 r3_1) rfl
      have kw0_2 := Bxw0.out.cell (j := 2) (v := .slice p3_2 q3_2 r3_2) rfl
      have kw0_3 := Bxw0.out.cell (j := 3) (v := .int .i64 ((dV (dealB xa0_0 xa0_1 xa0_2 ya0_0 ya0_1 ya0_2 ya0_3 ya1_0 ya1_1 ya1_2) (dAt ya0_0 ya1_0 ya1_1)))) rfl
      have kw0_4 := Bxw0.out.cell (j := 4) (v := .int .i64 ((dV (dealB xa0_0 xa0_1 xa0_2 ya0_0 ya0_1 ya0_2 ya0_3 ya1_0 ya1_1 ya1_2) (dSt ya0_1 ya1_0 ya1_1)))) rfl
      have kw0_5 := Bxw0.out.cell (j := 5) (v := .int .i64 ((dV (dealB xa0_0 xa0_1 xa0_2 ya0_0 ya0_1 ya0_2 ya0_3 ya1_0 ya1_1 ya1_2) (dPu xa0_2 ya0_0 ya0_1 ya0_2 ya1_0 ya1_1)))) rfl
      have kw0_6 := Bxw0.out.cell (j := 6) (v := .int .i64 ((dV (dealB xa0_0 xa0_1 xa0_2 ya0_0 ya0_1 ya0_2 ya0_3 ya1_0 ya1_1 ya1_2) (ya0_3 + 1)))) rfl
      have kg0_0 := Bxg0.out.cell (j := 0) (v := .slice p7_0 q7_0 r7_0) rfl
      have kg0_1 := Bxg0.out.cell (j := 1) (v := .slice p7_1 q7_1 r7_1) rfl
      have kg0_2 := Bxg0.out.cell (j := 2) (v := .slice p7_2 q7_2 r7_2) rfl
      have kg0_3 := Bxg0.out.cell (j := 3) (v := .int .i64 ((dV (dealB xa0_0 xa0_1 xa0_2 ya0_0 ya0_1 ya0_2 ya0_3 ya1_0 ya1_1 ya1_2) (dAt ya0_0 ya1_0 ya1_1)))) rfl
      have kg0_4 := Bxg0.out.cell (j := 4) (v := .int .i64 ((dV (dealB xa0_0 xa0_1 xa0_2 ya0_0 ya0_1 ya0_2 ya0_3 ya1_0 ya1_1 ya1_2) (dSt ya0_1 ya1_0 ya1_1)))) rfl
      have kg0_5 := Bxg0.out.cell (j := 5) (v := .int .i64 ((dV (dealB xa0_0 xa0_1 xa0_2 ya0_0 ya0_1 ya0_2 ya0_3 ya1_0 ya1_1 ya1_2) (dPu xa0_2 ya0_0 ya0_1 ya0_2 ya1_0 ya1_1)))) rfl
      have kg0_6 := Bxg0.out.cell (j := 6) (v := .int .i64 ((dV (dealB xa0_0 xa0_1 xa0_2 ya0_0 ya0_1 ya0_2 ya0_3 ya1_0 ya1_1 ya1_2) (ya0_3 + 1)))) rfl
      go_upto_region 24 with fail
      clear kaH_0 kaH_1 kaH_2 kaH_3 kaH_4 kaH_5 kaH_6 kaD_0 kaD_1 kaD_2 kw0_0 kw0_1 kw0_2 kw0_3 kw0_4 kw0_5 kw0_6 kg0_0 kg0_1 kg0_2 kg0_3 kg0_4 kg0_5 kg0_6
      have kaH_0 := BxaH.out.cell (j := 0) (v := .slice pa0_0 qa0_0 ra0_0) rfl
      have kaH_1 := BxaH.out.cell (j := 1) (v := .slice pa0_1 qa0_1 ra0_1) rfl
      have kaH_2 := BxaH.out.cell (j := 2) (v := .slice pa0_2 qa0_2 ra0_2) rfl
      have kaH_3 := BxaH.out.cell (j := 3) (v := .int .i64 ya0_0) rfl
      have kaH_4 := BxaH.out.cell (j := 4) (v := .int .i64 ya0_1) rfl
      have kaH_5 := BxaH.out.cell (j := 5) (v := .int .i64 ya0_2) rfl
      have kaH_6 := BxaH.out.cell (j := 6) (v := .int .i64 ya0_3) rfl
      have kaD_0 := BxaD.out.cell (j := 0) (v := .int .i64 ya1_0) rfl
      have kaD_1 := BxaD.out.cell (j := 1) (v := .int .i64 ya1_1) rfl
      have kaD_2 := BxaD.out.cell (j := 2) (v := .int .i64 ya1_2) rfl
      have ta0_0 := sa0_0.fr hF
      have ta0_1 := sa0_1.fr hF
      have ta0_2 := sa0_2.fr hF
      go_cut [14, 15] (fun s14 s15 wx => ∃ (gh0 Lh0 M17_0 M17_1 Hh0 : Nat) (p17_0 : Option Addr) (q17_0 r17_0 : Nat) (p17_1 : Option Addr) (q17_1 r17_1 : Nat) (p17_2 : Option Addr) (q17_2 r17_2 : Nat), s14 = .pointer (some ⟨gh0, 0, none⟩) ∧ s15 = .bool ((dealB xa0_0 xa0_1 xa0_2 ya0_0 ya0_1 ya0_2 ya0_3 ya1_0 ya1_1 ya1_2)) ∧ Blk wx gh0 #[.slice p17_0 q17_0 r17_0, .slice p17_1 q17_1 r17_1, .slice p17_2 q17_2 r17_2, .int .i64 ((dV (dealB xa0_0 xa0_1 xa0_2 ya0_0 ya0_1 ya0_2 ya0_3 ya1_0 ya1_1 ya1_2) (dAt ya0_0 ya1_0 ya1_1))), .int .i64 ((dV (dealB xa0_0 xa0_1 xa0_2 ya0_0 ya0_1 ya0_2 ya0_3 ya1_0 ya1_1 ya1_2) (dSt ya0_1 ya1_0 ya1_1))), .int .i64 ((dV (dealB xa0_0 xa0_1 xa0_2 ya0_0 ya0_1 ya0_2 ya0_3 ya1_0 ya1_1 ya1_2) (dPu xa0_2 ya0_0 ya0_1 ya0_2 ya1_0 ya1_1))), .int .i64 ((dV (dealB xa0_0 xa0_1 xa0_2 ya0_0 ya0_1 ya0_2 ya0_3 ya1_0 ya1_1 ya1_2) (ya0_3 + 1)))] 31 ∧ Own Lh0 wx p17_0 q17_0 r17_0 ((nhV (dealB xa0_0 xa0_1 xa0_2 ya0_0 ya0_1 ya0_2 ya0_3 ya1_0 ya1_1 ya1_2) xa0_0)) ∧ Own M17_0 wx p17_1 q17_1 r17_1 ((nhV (dealB xa0_0 xa0_1 xa0_2 ya0_0 ya0_1 ya0_2 ya0_3 ya1_0 ya1_1 ya1_2) (dW xa0_1 ya1_0 ya1_1 ya1_2))) ∧ Own M17_1 wx p17_2 q17_2 r17_2 ((nhV (dealB xa0_0 xa0_1 xa0_2 ya0_0 ya0_1 ya0_2 ya0_3 ya1_0 ya1_1 ya1_2) (dX xa0_2 ya1_0 ya1_1 ya1_2))) ∧ Within p17_0 Lh0 M17_0 ∧ Within p17_1 M17_0 M17_1 ∧ Within p17_2 M17_1 Hh0 ∧ w14.heap.size ≤ Lh0 ∧ Lh0 ≤ M17_0 ∧ M17_0 ≤ M17_1 ∧ M17_1 ≤ Hh0 ∧ Hh0 ≤ wx.heap.size ∧ w14.heap.size ≤ gh0 ∧ gh0 < wx.heap.size ∧ (gh0 < Lh0 ∨ Hh0 ≤ gh0) ∧ Fr w14 wx ∧ q17_0 ≤ 1048576 ∧ q17_1 ≤ 1048576 ∧ q17_2 ≤ 1048576)
      case first =>
        go_region_held3 (fun w' => w'.cell? ⟨w.heap.size, 0, none⟩ = some (.slice pa0_0 qa0_0 ra0_0) ∧ w'.cell? ⟨w.heap.size, 1, none⟩ = some (.slice pa0_1 qa0_1 ra0_1) ∧ w'.cell? ⟨w.heap.size, 2, none⟩ = some (.slice pa0_2 qa0_2 ra0_2) ∧ w'.cell? ⟨w.heap.size, 3, none⟩ = some (.int .i64 ya0_0) ∧ w'.cell? ⟨w.heap.size, 4, none⟩ = some (.int .i64 ya0_1) ∧ w'.cell? ⟨w.heap.size, 5, none⟩ = some (.int .i64 ya0_2) ∧ w'.cell? ⟨w.heap.size, 6, none⟩ = some (.int .i64 ya0_3) ∧ w'.cell? ⟨w.heap.size + 1, 0, none⟩ = some (.int .i64 ya1_0) ∧ w'.cell? ⟨w.heap.size + 1, 1, none⟩ = some (.int .i64 ya1_1) ∧ w'.cell? ⟨w.heap.size + 1, 2, none⟩ = some (.int .i64 ya1_2))
          (first | (with_reducible exact ⟨F17.keep kaH_0, F17.keep kaH_1, F17.keep kaH_2, F17.keep kaH_3, F17.keep kaH_4, F17.keep kaH_5, F17.keep kaH_6, F17.keep kaD_0, F17.keep kaD_1, F17.keep kaD_2⟩) | (with_reducible exact ⟨F16.keep kaH_0, F16.keep kaH_1, F16.keep kaH_2, F16.keep kaH_3, F16.keep kaH_4, F16.keep kaH_5, F16.keep kaH_6, F16.keep kaD_0, F16.keep kaD_1, F16.keep kaD_2⟩) | (with_reducible exact ⟨F15.keep kaH_0, F15.keep kaH_1, F15.keep kaH_2, F15.keep kaH_3, F15.keep kaH_4, F15.keep kaH_5, F15.keep kaH_6, F15.keep kaD_0, F15.keep kaD_1, F15.keep kaD_2⟩) | (with_reducible exact ⟨(F17.alloc _).keep kaH_0, (F17.alloc _).keep kaH_1, (F17.alloc _).keep kaH_2, (F17.alloc _).keep kaH_3, (F17.alloc _).keep kaH_4, (F17.alloc _).keep kaH_5, (F17.alloc _).keep kaH_6, (F17.alloc _).keep kaD_0, (F17.alloc _).keep kaD_1, (F17.alloc _).keep kaD_2⟩) | (with_reducible exact ⟨(F16.alloc _).keep kaH_0, (F16.alloc _).keep kaH_1, (F16.alloc _).keep kaH_2, (F16.alloc _).keep kaH_3, (F16.alloc _).keep kaH_4, (F16.alloc _).keep kaH_5, (F16.alloc _).keep kaH_6, (F16.alloc _).keep kaD_0, (F16.alloc _).keep kaD_1, (F16.alloc _).keep kaD_2⟩) | (with_reducible exact ⟨(F15.alloc _).keep kaH_0, (F15.alloc _).keep kaH_1, (F15.alloc _).keep kaH_2, (F15.alloc _).keep kaH_3, (F15.alloc _).keep kaH_4, (F15.alloc _).keep kaH_5, (F15.alloc _).keep kaH_6, (F15.alloc _).keep kaD_0, (F15.alloc _).keep kaD_1, (F15.alloc _).keep kaD_2⟩) | ((with_reducible refine ⟨(cell7 _ _ _ _ _ _ _ ?_).trans (F17.keep kaH_0), (cell7 _ _ _ _ _ _ _ ?_).trans (F17.keep kaH_1), (cell7 _ _ _ _ _ _ _ ?_).trans (F17.keep kaH_2), (cell7 _ _ _ _ _ _ _ ?_).trans (F17.keep kaH_3), (cell7 _ _ _ _ _ _ _ ?_).trans (F17.keep kaH_4), (cell7 _ _ _ _ _ _ _ ?_).trans (F17.keep kaH_5), (cell7 _ _ _ _ _ _ _ ?_).trans (F17.keep kaH_6), (cell7 _ _ _ _ _ _ _ ?_).trans (F17.keep kaD_0), (cell7 _ _ _ _ _ _ _ ?_).trans (F17.keep kaD_1), (cell7 _ _ _ _ _ _ _ ?_).trans (F17.keep kaD_2)⟩) <;> omega) | go_keep)
          (first
            | (go_at_call 17; refine (toHouse_any _ _ _ _ _ _ _ _ _ _ _ _ _ _ _ _ _ (ta0_0.fr (by first | exact (Fr.refl w14).drew' 1 | exact ((Fr.refl w14).alloc _).drew' 1)) (ta0_1.fr (by first | exact (Fr.refl w14).drew' 1 | exact ((Fr.refl w14).alloc _).drew' 1)) (ta0_2.fr (by first | exact (Fr.refl w14).drew' 1 | exact ((Fr.refl w14).alloc _).drew' 1)) (by omega) (by omega) (by omega)).mono ?_; rintro e w15 ⟨p15_0, q15_0, r15_0, p15_1, q15_1, r15_1, p15_2, q15_2, r15_2, M15_0, M15_1, rfl, o15_0, o15_1, o15_2, l15_0, l15_1, y15_0, y15_1, y15_2, f15, e15_0, e15_1, e15_2⟩; have F15 : Fr w14 w15 := (by first | exact ((Fr.refl w14).drew' 1).trans f15 | exact (((Fr.refl w14).alloc _).drew' 1).trans f15); have Y15 := F15.size)
            | (go_at_call 43; refine (toDeal_any _ _ _ _).mono ?_; rintro e w16 ⟨rfl, f16⟩; have F16 : Fr w14 w16 := (by first | exact (F15).trans f16 | exact (F15.alloc _).trans f16); have Y16 := F16.size)
            | (go_at_call 44; refine (impl_DealHouse_any _ _ _ _ _ _ _ _ _ _ _ _ _ _ _ _ _ _ _ _ (by first | exact ((o15_0.fr ((Fr.refl _).alloc _)).fr f16).sl | exact ((o15_0.fr f16).fr ((Fr.refl _).alloc _)).sl | exact (o15_0.fr f16).sl) (by first | exact ((o15_1.fr ((Fr.refl _).alloc _)).fr f16).sl | exact ((o15_1.fr f16).fr ((Fr.refl _).alloc _)).sl | exact (o15_1.fr f16).sl) (by first | exact ((o15_2.fr ((Fr.refl _).alloc _)).fr f16).sl | exact ((o15_2.fr f16).fr ((Fr.refl _).alloc _)).sl | exact (o15_2.fr f16).sl) ia0_0 ia0_1 ia0_2 ia0_3 ia1_0 ia1_1 ia1_2).mono ?_; rintro e w17 ⟨p17_0, q17_0, r17_0, p17_1, q17_1, r17_1, p17_2, q17_2, r17_2, M17_0, M17_1, rfl, o17_0, o17_1, o17_2, l17_0, l17_1, y17_0, y17_1, y17_2, f17, e17_0, e17_1, e17_2⟩; have F17 : Fr w14 w17 := (by first | exact (F16).trans f17 | exact (F16.alloc _).trans f17); (try (have zb := (((((Blk.new w14 #[.slice none 0 0, .slice none 0 0, .slice none 0 0, .int .i64 0, .int .i64 0, .int .i64 0, .int .i64 0] 31).fr (Fr.drewN _ 1)).fr f15).fr f16).fr f17); have zc0 := zb.cell (j := 0) rfl; have zc1 := zb.cell (j := 1) rfl; have zc2 := zb.cell (j := 2) rfl; have zc3 := zb.cell (j := 3) rfl; have zc4 := zb.cell (j := 4) rfl; have zc5 := zb.cell (j := 5) rfl; have zc6 := zb.cell (j := 6) rfl; have zf0 := zb.free 0; have zf1 := zb.free 1; have zf2 := zb.free 2; have zf3 := zb.free 3; have zf4 := zb.free 4; have zf5 := zb.free 5; have zf6 := zb.free 6; clear zb)); (try (have zb := (((Blk.new w15 #[.slice none 0 0, .slice none 0 0, .slice none 0 0, .int .i64 0, .int .i64 0, .int .i64 0, .int .i64 0] 31).fr f16).fr f17); have zc0 := zb.cell (j := 0) rfl; have zc1 := zb.cell (j := 1) rfl; have zc2 := zb.cell (j := 2) rfl; have zc3 := zb.cell (j := 3) rfl; have zc4 := zb.cell (j := 4) rfl; have zc5 := zb.cell (j := 5) rfl; have zc6 := zb.cell (j := 6) rfl; have zf0 := zb.free 0; have zf1 := zb.free 1; have zf2 := zb.free 2; have zf3 := zb.free 3; have zf4 := zb.free 4; have zf5 := zb.free 5; have zf6 := zb.free 6; clear zb)); (try (have zb := ((Blk.new w16 #[.slice none 0 0, .slice none 0 0, .slice none 0 0, .int .i64 0, .int .i64 0, .int .i64 0, .int .i64 0] 31).fr f17); have zc0 := zb.cell (j := 0) rfl; have zc1 := zb.cell (j := 1) rfl; have zc2 := zb.cell (j := 2) rfl; have zc3 := zb.cell (j := 3) rfl; have zc4 := zb.cell (j := 4) rfl; have zc5 := zb.cell (j := 5) rfl; have zc6 := zb.cell (j := 6) rfl; have zf0 := zb.free 0; have zf1 := zb.free 1; have zf2 := zb.free 2; have zf3 := zb.free 3; have zf4 := zb.free 4; have zf5 := zb.free 5; have zf6 := zb.free 6; clear zb))))
        all_goals
          go_wp2_with fail
          go_meet
          have zs15 := f15.size
          try simp at zs15
          have zs16 := f16.size
          try simp at zs16
          have zs17 := f17.size
          try simp at zs17
          have zz1 := f17.size
          have zz2 := F17.size
          have zz3 := F16.size
          try simp only [World.size_alloc] at zz1 zz2 y17_0 l17_0
        · exact ⟨w17.heap.size, w16.heap.size, _, _, w17.heap.size, _, _, _, _, _, _, _, _, _, rfl, rfl, (Blk.new w17 _ 31), ((o17_0.mono (B' := w16.heap.size) (by first | exact Nat.le_refl _ | (simp; done) | (simp; omega))).fr ((Fr.refl _).alloc _)), (o17_1.fr ((Fr.refl _).alloc _)), (o17_2.fr ((Fr.refl _).alloc _)), (fun k hk => by have := l17_0 k hk; first | omega | (simp at this; omega)), l17_1, o17_2.within, (by first | omega | (simp; done) | (simp; omega)), (by first | omega | (simp; done) | (simp; omega)), (by first | omega | (simp; done) | (simp; omega)), (by first | omega | (simp; done) | (simp; omega)), (by first | omega | (simp; done) | (simp; omega)), (by first | omega | (simp; done) | (simp; omega)), (by first | omega | (simp; done) | (simp; omega)), (.inr (Nat.le_refl _)), (F17.alloc _), e17_0, e17_1, e17_2⟩
        · exact ⟨w16.heap.size, w16.heap.size + 1, _, _, w17.heap.size, _, _, _, _, _, _, _, _, _, rfl, rfl, (((Blk.new w16 _ 31).fr f17).set7 (.slice p17_0 q17_0 r17_0) (.slice p17_1 q17_1 r17_1) (.slice p17_2 q17_2 r17_2) (.int .i64 ((dV (dealB xa0_0 xa0_1 xa0_2 ya0_0 ya0_1 ya0_2 ya0_3 ya1_0 ya1_1 ya1_2) (dAt ya0_0 ya1_0 ya1_1)))) (.int .i64 ((dV (dealB xa0_0 xa0_1 xa0_2 ya0_0 ya0_1 ya0_2 ya0_3 ya1_0 ya1_1 ya1_2) (dSt ya0_1 ya1_0 ya1_1)))) (.int .i64 ((dV (dealB xa0_0 xa0_1 xa0_2 ya0_0 ya0_1 ya0_2 ya0_3 ya1_0 ya1_1 ya1_2) (dPu xa0_2 ya0_0 ya0_1 ya0_2 ya1_0 ya1_1)))) (.int .i64 ((dV (dealB xa0_0 xa0_1 xa0_2 ya0_0 ya0_1 ya0_2 ya0_3 ya1_0 ya1_1 ya1_2) (ya0_3 + 1))))), ((o17_0.mono (B' := w16.heap.size + 1) (by first | exact Nat.le_refl _ | (simp; done) | (simp; omega))).set7 (by first | omega | (simp; done) | (simp; omega)) (.slice p17_0 q17_0 r17_0) (.slice p17_1 q17_1 r17_1) (.slice p17_2 q17_2 r17_2) (.int .i64 ((dV (dealB xa0_0 xa0_1 xa0_2 ya0_0 ya0_1 ya0_2 ya0_3 ya1_0 ya1_1 ya1_2) (dAt ya0_0 ya1_0 ya1_1)))) (.int .i64 ((dV (dealB xa0_0 xa0_1 xa0_2 ya0_0 ya0_1 ya0_2 ya0_3 ya1_0 ya1_1 ya1_2) (dSt ya0_1 ya1_0 ya1_1)))) (.int .i64 ((dV (dealB xa0_0 xa0_1 xa0_2 ya0_0 ya0_1 ya0_2 ya0_3 ya1_0 ya1_1 ya1_2) (dPu xa0_2 ya0_0 ya0_1 ya0_2 ya1_0 ya1_1)))) (.int .i64 ((dV (dealB xa0_0 xa0_1 xa0_2 ya0_0 ya0_1 ya0_2 ya0_3 ya1_0 ya1_1 ya1_2) (ya0_3 + 1))))), (o17_1.set7 (by first | omega | (simp; done) | (simp; omega)) (.slice p17_0 q17_0 r17_0) (.slice p17_1 q17_1 r17_1) (.slice p17_2 q17_2 r17_2) (.int .i64 ((dV (dealB xa0_0 xa0_1 xa0_2 ya0_0 ya0_1 ya0_2 ya0_3 ya1_0 ya1_1 ya1_2) (dAt ya0_0 ya1_0 ya1_1)))) (.int .i64 ((dV (dealB xa0_0 xa0_1 xa0_2 ya0_0 ya0_1 ya0_2 ya0_3 ya1_0 ya1_1 ya1_2) (dSt ya0_1 ya1_0 ya1_1)))) (.int .i64 ((dV (dealB xa0_0 xa0_1 xa0_2 ya0_0 ya0_1 ya0_2 ya0_3 ya1_0 ya1_1 ya1_2) (dPu xa0_2 ya0_0 ya0_1 ya0_2 ya1_0 ya1_1)))) (.int .i64 ((dV (dealB xa0_0 xa0_1 xa0_2 ya0_0 ya0_1 ya0_2 ya0_3 ya1_0 ya1_1 ya1_2) (ya0_3 + 1))))), (o17_2.set7 (by first | omega | (simp; done) | (simp; omega)) (.slice p17_0 q17_0 r17_0) (.slice p17_1 q17_1 r17_1) (.slice p17_2 q17_2 r17_2) (.int .i64 ((dV (dealB xa0_0 xa0_1 xa0_2 ya0_0 ya0_1 ya0_2 ya0_3 ya1_0 ya1_1 ya1_2) (dAt ya0_0 ya1_0 ya1_1)))) (.int .i64 ((dV (dealB xa0_0 xa0_1 xa0_2 ya0_0 ya0_1 ya0_2 ya0_3 ya1_0 ya1_1 ya1_2) (dSt ya0_1 ya1_0 ya1_1)))) (.int .i64 ((dV (dealB xa0_0 xa0_1 xa0_2 ya0_0 ya0_1 ya0_2 ya0_3 ya1_0 ya1_1 ya1_2) (dPu xa0_2 ya0_0 ya0_1 ya0_2 ya1_0 ya1_1)))) (.int .i64 ((dV (dealB xa0_0 xa0_1 xa0_2 ya0_0 ya0_1 ya0_2 ya0_3 ya1_0 ya1_1 ya1_2) (ya0_3 + 1))))), (fun k hk => by have := l17_0 k hk; first | omega | (simp at this; omega)), l17_1, o17_2.within, (by first | omega | (simp; done) | (simp; omega)), (by first | omega | (simp; done) | (simp; omega)), (by first | omega | (simp; done) | (simp; omega)), (by first | omega | (simp; done) | (simp; omega)), (by first | omega | (simp; done) | (simp; omega)), (by first | omega | (simp; done) | (simp; omega)), (by first | omega | (simp; done) | (simp; omega)), (.inl (by first | omega | (simp; done) | (simp; omega))), (F17.set7 (by first | omega | (simp; done) | (simp; omega)) (.slice p17_0 q17_0 r17_0) (.slice p17_1 q17_1 r17_1) (.slice p17_2 q17_2 r17_2) (.int .i64 ((dV (dealB xa0_0 xa0_1 xa0_2 ya0_0 ya0_1 ya0_2 ya0_3 ya1_0 ya1_1 ya1_2) (dAt ya0_0 ya1_0 ya1_1)))) (.int .i64 ((dV (dealB xa0_0 xa0_1 xa0_2 ya0_0 ya0_1 ya0_2 ya0_3 ya1_0 ya1_1 ya1_2) (dSt ya0_1 ya1_0 ya1_1)))) (.int .i64 ((dV (dealB xa0_0 xa0_1 xa0_2 ya0_0 ya0_1 ya0_2 ya0_3 ya1_0 ya1_1 ya1_2) (dPu xa0_2 ya0_0 ya0_1 ya0_2 ya1_0 ya1_1)))) (.int .i64 ((dV (dealB xa0_0 xa0_1 xa0_2 ya0_0 ya0_1 ya0_2 ya0_3 ya1_0 ya1_1 ya1_2) (ya0_3 + 1))))), e17_0, e17_1, e17_2⟩
        · exact ⟨w15.heap.size, w16.heap.size, _, _, w17.heap.size, _, _, _, _, _, _, _, _, _, rfl, rfl, ((((Blk.new w15 _ 31).fr f16).fr f17).set7 (.slice p17_0 q17_0 r17_0) (.slice p17_1 q17_1 r17_1) (.slice p17_2 q17_2 r17_2) (.int .i64 ((dV (dealB xa0_0 xa0_1 xa0_2 ya0_0 ya0_1 ya0_2 ya0_3 ya1_0 ya1_1 ya1_2) (dAt ya0_0 ya1_0 ya1_1)))) (.int .i64 ((dV (dealB xa0_0 xa0_1 xa0_2 ya0_0 ya0_1 ya0_2 ya0_3 ya1_0 ya1_1 ya1_2) (dSt ya0_1 ya1_0 ya1_1)))) (.int .i64 ((dV (dealB xa0_0 xa0_1 xa0_2 ya0_0 ya0_1 ya0_2 ya0_3 ya1_0 ya1_1 ya1_2) (dPu xa0_2 ya0_0 ya0_1 ya0_2 ya1_0 ya1_1)))) (.int .i64 ((dV (dealB xa0_0 xa0_1 xa0_2 ya0_0 ya0_1 ya0_2 ya0_3 ya1_0 ya1_1 ya1_2) (ya0_3 + 1))))), ((o17_0.mono (B' := w16.heap.size) (by first | exact Nat.le_refl _ | (simp; done) | (simp; omega))).set7 (by first | omega | (simp; done) | (simp; omega)) (.slice p17_0 q17_0 r17_0) (.slice p17_1 q17_1 r17_1) (.slice p17_2 q17_2 r17_2) (.int .i64 ((dV (dealB xa0_0 xa0_1 xa0_2 ya0_0 ya0_1 ya0_2 ya0_3 ya1_0 ya1_1 ya1_2) (dAt ya0_0 ya1_0 ya1_1)))) (.int .i64 ((dV (dealB xa0_0 xa0_1 xa0_2 ya0_0 ya0_1 ya0_2 ya0_3 ya1_0 ya1_1 ya1_2) (dSt ya0_1 ya1_0 ya1_1)))) (.int .i64 ((dV (dealB xa0_0 xa0_1 xa0_2 ya0_0 ya0_1 ya0_2 ya0_3 ya1_0 ya1_1 ya1_2) (dPu xa0_2 ya0_0 ya0_1 ya0_2 ya1_0 ya1_1)))) (.int .i64 ((dV (dealB xa0_0 xa0_1 xa0_2 ya0_0 ya0_1 ya0_2 ya0_3 ya1_0 ya1_1 ya1_2) (ya0_3 + 1))))), (o17_1.set7 (by first | omega | (simp; done) | (simp; omega)) (.slice p17_0 q17_0 r17_0) (.slice p17_1 q17_1 r17_1) (.slice p17_2 q17_2 r17_2) (.int .i64 ((dV (dealB xa0_0 xa0_1 xa0_2 ya0_0 ya0_1 ya0_2 ya0_3 ya1_0 ya1_1 ya1_2) (dAt ya0_0 ya1_0 ya1_1)))) (.int .i64 ((dV (dealB xa0_0 xa0_1 xa0_2 ya0_0 ya0_1 ya0_2 ya0_3 ya1_0 ya1_1 ya1_2) (dSt ya0_1 ya1_0 ya1_1)))) (.int .i64 ((dV (dealB xa0_0 xa0_1 xa0_2 ya0_0 ya0_1 ya0_2 ya0_3 ya1_0 ya1_1 ya1_2) (dPu xa0_2 ya0_0 ya0_1 ya0_2 ya1_0 ya1_1)))) (.int .i64 ((dV (dealB xa0_0 xa0_1 xa0_2 ya0_0 ya0_1 ya0_2 ya0_3 ya1_0 ya1_1 ya1_2) (ya0_3 + 1))))), (o17_2.set7 (by first | omega | (simp; done) | (simp; omega)) (.slice p17_0 q17_0 r17_0) (.slice p17_1 q17_1 r17_1) (.slice p17_2 q17_2 r17_2) (.int .i64 ((dV (dealB xa0_0 xa0_1 xa0_2 ya0_0 ya0_1 ya0_2 ya0_3 ya1_0 ya1_1 ya1_2) (dAt ya0_0 ya1_0 ya1_1)))) (.int .i64 ((dV (dealB xa0_0 xa0_1 xa0_2 ya0_0 ya0_1 ya0_2 ya0_3 ya1_0 ya1_1 ya1_2) (dSt ya0_1 ya1_0 ya1_1)))) (.int .i64 ((dV (dealB xa0_0 xa0_1 xa0_2 ya0_0 ya0_1 ya0_2 ya0_3 ya1_0 ya1_1 ya1_2) (dPu xa0_2 ya0_0 ya0_1 ya0_2 ya1_0 ya1_1)))) (.int .i64 ((dV (dealB xa0_0 xa0_1 xa0_2 ya0_0 ya0_1 ya0_2 ya0_3 ya1_0 ya1_1 ya1_2) (ya0_3 + 1))))), (fun k hk => by have := l17_0 k hk; first | omega | (simp at this; omega)), l17_1, o17_2.within, (by first | omega | (simp; done) | (simp; omega)), (by first | omega | (simp; done) | (simp; omega)), (by first | omega | (simp; done) | (simp; omega)), (by first | omega | (simp; done) | (simp; omega)), (by first | omega | (simp; done) | (simp; omega)), (by first | omega | (simp; done) | (simp; omega)), (by first | omega | (simp; done) | (simp; omega)), (.inl (by first | omega | (simp; done) | (simp; omega))), (F17.set7 (by first | omega | (simp; done) | (simp; omega)) (.slice p17_0 q17_0 r17_0) (.slice p17_1 q17_1 r17_1) (.slice p17_2 q17_2 r17_2) (.int .i64 ((dV (dealB xa0_0 xa0_1 xa0_2 ya0_0 ya0_1 ya0_2 ya0_3 ya1_0 ya1_1 ya1_2) (dAt ya0_0 ya1_0 ya1_1)))) (.int .i64 ((dV (dealB xa0_0 xa0_1 xa0_2 ya0_0 ya0_1 ya0_2 ya0_3 ya1_0 ya1_1 ya1_2) (dSt ya0_1 ya1_0 ya1_1)))) (.int .i64 ((dV (dealB xa0_0 xa0_1 xa0_2 ya0_0 ya0_1 ya0_2 ya0_3 ya1_0 ya1_1 ya1_2) (dPu xa0_2 ya0_0 ya0_1 ya0_2 ya1_0 ya1_1)))) (.int .i64 ((dV (dealB xa0_0 xa0_1 xa0_2 ya0_0 ya0_1 ya0_2 ya0_3 ya1_0 ya1_1 ya1_2) (ya0_3 + 1))))), e17_0, e17_1, e17_2⟩
        · exact ⟨w14.heap.size, w16.heap.size, _, _, w17.heap.size, _, _, _, _, _, _, _, _, _, rfl, rfl, ((((((Blk.new w14 _ 31).fr (Fr.drewN _ 1)).fr f15).fr f16).fr f17).set7 (.slice p17_0 q17_0 r17_0) (.slice p17_1 q17_1 r17_1) (.slice p17_2 q17_2 r17_2) (.int .i64 ((dV (dealB xa0_0 xa0_1 xa0_2 ya0_0 ya0_1 ya0_2 ya0_3 ya1_0 ya1_1 ya1_2) (dAt ya0_0 ya1_0 ya1_1)))) (.int .i64 ((dV (dealB xa0_0 xa0_1 xa0_2 ya0_0 ya0_1 ya0_2 ya0_3 ya1_0 ya1_1 ya1_2) (dSt ya0_1 ya1_0 ya1_1)))) (.int .i64 ((dV (dealB xa0_0 xa0_1 xa0_2 ya0_0 ya0_1 ya0_2 ya0_3 ya1_0 ya1_1 ya1_2) (dPu xa0_2 ya0_0 ya0_1 ya0_2 ya1_0 ya1_1)))) (.int .i64 ((dV (dealB xa0_0 xa0_1 xa0_2 ya0_0 ya0_1 ya0_2 ya0_3 ya1_0 ya1_1 ya1_2) (ya0_3 + 1))))), ((o17_0.mono (B' := w16.heap.size) (by first | exact Nat.le_refl _ | (simp; done) | (simp; omega))).set7 (by first | omega | (simp; done) | (simp; omega)) (.slice p17_0 q17_0 r17_0) (.slice p17_1 q17_1 r17_1) (.slice p17_2 q17_2 r17_2) (.int .i64 ((dV (dealB xa0_0 xa0_1 xa0_2 ya0_0 ya0_1 ya0_2 ya0_3 ya1_0 ya1_1 ya1_2) (dAt ya0_0 ya1_0 ya1_1)))) (.int .i64 ((dV (dealB xa0_0 xa0_1 xa0_2 ya0_0 ya0_1 ya0_2 ya0_3 ya1_0 ya1_1 ya1_2) (dSt ya0_1 ya1_0 ya1_1)))) (.int .i64 ((dV (dealB xa0_0 xa0_1 xa0_2 ya0_0 ya0_1 ya0_2 ya0_3 ya1_0 ya1_1 ya1_2) (dPu xa0_2 ya0_0 ya0_1 ya0_2 ya1_0 ya1_1)))) (.int .i64 ((dV (dealB xa0_0 xa0_1 xa0_2 ya0_0 ya0_1 ya0_2 ya0_3 ya1_0 ya1_1 ya1_2) (ya0_3 + 1))))), (o17_1.set7 (by first | omega | (simp; done) | (simp; omega)) (.slice p17_0 q17_0 r17_0) (.slice p17_1 q17_1 r17_1) (.slice p17_2 q17_2 r17_2) (.int .i64 ((dV (dealB xa0_0 xa0_1 xa0_2 ya0_0 ya0_1 ya0_2 ya0_3 ya1_0 ya1_1 ya1_2) (dAt ya0_0 ya1_0 ya1_1)))) (.int .i64 ((dV (dealB xa0_0 xa0_1 xa0_2 ya0_0 ya0_1 ya0_2 ya0_3 ya1_0 ya1_1 ya1_2) (dSt ya0_1 ya1_0 ya1_1)))) (.int .i64 ((dV (dealB xa0_0 xa0_1 xa0_2 ya0_0 ya0_1 ya0_2 ya0_3 ya1_0 ya1_1 ya1_2) (dPu xa0_2 ya0_0 ya0_1 ya0_2 ya1_0 ya1_1)))) (.int .i64 ((dV (dealB xa0_0 xa0_1 xa0_2 ya0_0 ya0_1 ya0_2 ya0_3 ya1_0 ya1_1 ya1_2) (ya0_3 + 1))))), (o17_2.set7 (by first | omega | (simp; done) | (simp; omega)) (.slice p17_0 q17_0 r17_0) (.slice p17_1 q17_1 r17_1) (.slice p17_2 q17_2 r17_2) (.int .i64 ((dV (dealB xa0_0 xa0_1 xa0_2 ya0_0 ya0_1 ya0_2 ya0_3 ya1_0 ya1_1 ya1_2) (dAt ya0_0 ya1_0 ya1_1)))) (.int .i64 ((dV (dealB xa0_0 xa0_1 xa0_2 ya0_0 ya0_1 ya0_2 ya0_3 ya1_0 ya1_1 ya1_2) (dSt ya0_1 ya1_0 ya1_1)))) (.int .i64 ((dV (dealB xa0_0 xa0_1 xa0_2 ya0_0 ya0_1 ya0_2 ya0_3 ya1_0 ya1_1 ya1_2) (dPu xa0_2 ya0_0 ya0_1 ya0_2 ya1_0 ya1_1)))) (.int .i64 ((dV (dealB xa0_0 xa0_1 xa0_2 ya0_0 ya0_1 ya0_2 ya0_3 ya1_0 ya1_1 ya1_2) (ya0_3 + 1))))), (fun k hk => by have := l17_0 k hk; first | omega | (simp at this; omega)), l17_1, o17_2.within, (by first | omega | (simp; done) | (simp; omega)), (by first | omega | (simp; done) | (simp; omega)), (by first | omega | (simp; done) | (simp; omega)), (by first | omega | (simp; done) | (simp; omega)), (by first | omega | (simp; done) | (simp; omega)), (by first | omega | (simp; done) | (simp; omega)), (by first | omega | (simp; done) | (simp; omega)), (.inl (by first | omega | (simp; done) | (simp; omega))), (F17.set7 (by first | omega | (simp; done) | (simp; omega)) (.slice p17_0 q17_0 r17_0) (.slice p17_1 q17_1 r17_1) (.slice p17_2 q17_2 r17_2) (.int .i64 ((dV (dealB xa0_0 xa0_1 xa0_2 ya0_0 ya0_1 ya0_2 ya0_3 ya1_0 ya1_1 ya1_2) (dAt ya0_0 ya1_0 ya1_1)))) (.int .i64 ((dV (dealB xa0_0 xa0_1 xa0_2 ya0_0 ya0_1 ya0_2 ya0_3 ya1_0 ya1_1 ya1_2) (dSt ya0_1 ya1_0 ya1_1)))) (.int .i64 ((dV (dealB xa0_0 xa0_1 xa0_2 ya0_0 ya0_1 ya0_2 ya0_3 ya1_0 ya1_1 ya1_2) (dPu xa0_2 ya0_0 ya0_1 ya0_2 ya1_0 ya1_1)))) (.int .i64 ((dV (dealB xa0_0 xa0_1 xa0_2 ya0_0 ya0_1 ya0_2 ya0_3 ya1_0 ya1_1 ya1_2) (ya0_3 + 1))))), e17_0, e17_1, e17_2⟩
      case rest =>
        obtain ⟨gh0, Lh0, M17_0, M17_1, Hh0, p17_0, q17_0, r17_0, p17_1, q17_1, r17_1, p17_2, q17_2, r17_2, rfl, rfl, Bq, o17_0, o17_1, o17_2, l17_0, l17_1, l17_2, y17_0, y17_1, y17_2, y17_3, y17_4, Gq, gq, dqh0, f17, e17_0, e17_1, e17_2⟩ := hcut
        clear kaH_0 kaH_1 kaH_2 kaH_3 kaH_4 kaH_5 kaH_6 kaD_0 kaD_1 kaD_2 ta0_0 ta0_1 ta0_2
        have Bxh0 := Lib.hid Bq; clear Bq
        obtain ⟨w17, rfl⟩ : ∃ wz : World, wz = wc := ⟨_, rfl⟩
        have Nh0 := Lib.hid (And.intro Gq gq)
        obtain ⟨Glh0, glh0⟩ := Nh0.out
        replace BxaH := Lib.hid (BxaH.out.fr f17)
        replace BxaD := Lib.hid (BxaD.out.fr f17)
        replace Bxw0 := Lib.hid (Bxw0.out.fr f17)
        replace Bxx0 := Lib.hid (Bxx0.out.fr f17)
        replace Bxg0 := Lib.hid (Bxg0.out.fr f17)
        replace o3_0 := o3_0.fr f17
        replace o3_1 := o3_1.fr f17
        replace o3_2 := o3_2.fr f17
        replace o4_0 := o4_0.fr f17
        replace o4_1 := o4_1.fr f17
        replace o4_2 := o4_2.fr f17
        replace o7_0 := o7_0.fr f17
        replace o7_1 := o7_1.fr f17
        replace o7_2 := o7_2.fr f17
        have g17 := hF.size
        have z17 := f17.size
        replace hF := hF.trans f17
        clear f17
        have kaH_0 := BxaH.out.cell (j := 0) (v := .slice pa0_0 qa0_0 ra0_0) rfl
        have kaH_1 := BxaH.out.cell (j := 1) (v := .slice pa0_1 qa0_1 ra0_1) rfl
        have kaH_2 := BxaH.out.cell (j := 2) (v := .slice pa0_2 qa0_2 ra0_2) rfl
        have kaH_3 := BxaH.out.cell (j := 3) (v := .int .i64 ya0_0) rfl
        have kaH_4 := BxaH.out.cell (j := 4) (v := .int .i64 ya0_1) rfl
        have kaH_5 := BxaH.out.cell (j := 5) (v := .int .i64 ya0_2) rfl
        have kaH_6 := BxaH.out.cell (j := 6) (v := .int .i64 ya0_3) rfl
        have kaD_0 := BxaD.out.cell (j := 0) (v := .int .i64 ya1_0) rfl
        have kaD_1 := BxaD.out.cell (j := 1) (v := .int .i64 ya1_1) rfl
        have kaD_2 := BxaD.out.cell (j := 2) (v := .int .i64 ya1_2) rfl
        have kw0_0 := Bxw0.out.cell (j := 0) (v := .slice p3_0 q3_0 r3_0) rfl
        have kw0_1 := Bxw0.out.cell (j := 1) (v := .slice p3_1 q3_1 r3_1) rfl
        have kw0_2 := Bxw0.out.cell (j := 2) (v := .slice p3_2 q3_2 r3_2) rfl
        have kw0_3 := Bxw0.out.cell (j := 3) (v := .int .i64 ((dV (dealB xa0_0 xa0_1 xa0_2 ya0_0 ya0_1 ya0_2 ya0_3 ya1_0 ya1_1 ya1_2) (dAt ya0_0 ya1_0 ya1_1)))) rfl
        have kw0_4 := Bxw0.out.cell (j := 4) (v := .int .i64 ((dV (dealB xa0_0 xa0_1 xa0_2 ya0_0 ya0_1 ya0_2 ya0_3 ya1_0 ya1_1 ya1_2) (dSt ya0_1 ya1_0 ya1_1)))) rfl
        have kw0_5 := Bxw0.out.cell (j := 5) (v := .int .i64 ((dV (dealB xa0_0 xa0_1 xa0_2 ya0_0 ya0_1 ya0_2 ya0_3 ya1_0 ya1_1 ya1_2) (dPu xa0_2 ya0_0 ya0_1 ya0_2 ya1_0 ya1_1)))) rfl
        have kw0_6 := Bxw0.out.cell (j := 6) (v := .int .i64 ((dV (dealB xa0_0 xa0_1 xa0_2 ya0_0 ya0_1 ya0_2 ya0_3 ya1_0 ya1_1 ya1_2) (ya0_3 + 1)))) rfl
        have kg0_0 := Bxg0.out.cell (j := 0) (v := .slice p7_0 q7_0 r7_0) rfl
        have kg0_1 := Bxg0.out.cell (j := 1) (v := .slice p7_1 q7_1 r7_1) rfl
        have kg0_2 := Bxg0.out.cell (j := 2) (v := .slice p7_2 q7_2 r7_2) rfl
        have kg0_3 := Bxg0.out.cell (j := 3) (v := .int .i64 ((dV (dealB xa0_0 xa0_1 xa0_2 ya0_0 ya0_1 ya0_2 ya0_3 ya1_0 ya1_1 ya1_2) (dAt ya0_0 ya1_0 ya1_1)))) rfl
        have kg0_4 := Bxg0.out.cell (j := 4) (v := .int .i64 ((dV (dealB xa0_0 xa0_1 xa0_2 ya0_0 ya0_1 ya0_2 ya0_3 ya1_0 ya1_1 ya1_2) (dSt ya0_1 ya1_0 ya1_1)))) rfl
        have kg0_5 := Bxg0.out.cell (j := 5) (v := .int .i64 ((dV (dealB xa0_0 xa0_1 xa0_2 ya0_0 ya0_1 ya0_2 ya0_3 ya1_0 ya1_1 ya1_2) (dPu xa0_2 ya0_0 ya0_1 ya0_2 ya1_0 ya1_1)))) rfl
        have kg0_6 := Bxg0.out.cell (j := 6) (v := .int .i64 ((dV (dealB xa0_0 xa0_1 xa0_2 ya0_0 ya0_1 ya0_2 ya0_3 ya1_0 ya1_1 ya1_2) (ya0_3 + 1)))) rfl
        have kh0_0 := Bxh0.out.cell (j := 0) (v := .slice p17_0 q17_0 r17_0) rfl
        have kh0_1 := Bxh0.out.cell (j := 1) (v := .slice p17_1 q17_1 r17_1) rfl
        have kh0_2 := Bxh0.out.cell (j := 2) (v := .slice p17_2 q17_2 r17_2) rfl
        have kh0_3 := Bxh0.out.cell (j := 3) (v := .int .i64 ((dV (dealB xa0_0 xa0_1 xa0_2 ya0_0 ya0_1 ya0_2 ya0_3 ya1_0 ya1_1 ya1_2) (dAt ya0_0 ya1_0 ya1_1)))) rfl
        have kh0_4 := Bxh0.out.cell (j := 4) (v := .int .i64 ((dV (dealB xa0_0 xa0_1 xa0_2 ya0_0 ya0_1 ya0_2 ya0_3 ya1_0 ya1_1 ya1_2) (dSt ya0_1 ya1_0 ya1_1)))) rfl
        have kh0_5 := Bxh0.out.cell (j := 5) (v := .int .i64 ((dV (dealB xa0_0 xa0_1 xa0_2 ya0_0 ya0_1 ya0_2 ya0_3 ya1_0 ya1_1 ya1_2) (dPu xa0_2 ya0_0 ya0_1 ya0_2 ya1_0 ya1_1)))) rfl
        have kh0_6 := Bxh0.out.cell (j := 6) (v := .int .i64 ((dV (dealB xa0_0 xa0_1 xa0_2 ya0_0 ya0_1 ya0_2 ya0_3 ya1_0 ya1_1 ya1_2) (ya0_3 + 1)))) rfl
        have hFx := hF
        go_wp2_with fail
        clear kaH_0 kaH_1 kaH_2 kaH_3 kaH_4 kaH_5 kaH_6 kaD_0 kaD_1 kaD_2 kw0_0 kw0_1 kw0_2 kw0_3 kw0_4 kw0_5 kw0_6 kg0_0 kg0_1 kg0_2 kg0_3 kg0_4 kg0_5 kg0_6 kh0_0 kh0_1 kh0_2 kh0_3 kh0_4 kh0_5 kh0_6
        refine (eqHouse_same _ _ _ _ _ _ _ _ _ _ _ _ _ _ _ _ _ _ _ _ _ _ _ _ _ _ o17_0.sl o17_1.sl o17_2.sl o3_0.sl o3_1.sl o3_2.sl).mono ?_
        rintro e w18 ⟨rfl, f18⟩
        replace BxaH := Lib.hid (BxaH.out.fr f18)
        replace BxaD := Lib.hid (BxaD.out.fr f18)
        replace Bxw0 := Lib.hid (Bxw0.out.fr f18)
        replace Bxx0 := Lib.hid (Bxx0.out.fr f18)
        replace Bxg0 := Lib.hid (Bxg0.out.fr f18)
        replace Bxh0 := Lib.hid (Bxh0.out.fr f18)
        replace o3_0 := o3_0.fr f18
        replace o3_1 := o3_1.fr f18
        replace o3_2 := o3_2.fr f18
        replace o4_0 := o4_0.fr f18
        replace o4_1 := o4_1.fr f18
        replace o4_2 := o4_2.fr f18
        replace o7_0 := o7_0.fr f18
        replace o7_1 := o7_1.fr f18
        replace o7_2 := o7_2.fr f18
        replace o17_0 := o17_0.fr f18
        replace o17_1 := o17_1.fr f18
        replace o17_2 := o17_2.fr f18
        have z18 := f18.size
        replace hF := hF.trans f18
        clear f18
        have kw0_0 := Bxw0.out.cell (j := 0) (v := .slice p3_0 q3_0 r3_0) rfl
        have kw0_1 := Bxw0.out.cell (j := 1) (v := .slice p3_1 q3_1 r3_1) rfl
        have kw0_2 := Bxw0.out.cell (j := 2) (v := .slice p3_2 q3_2 r3_2) rfl
        have kw0_3 := Bxw0.out.cell (j := 3) (v := .int .i64 ((dV (dealB xa0_0 xa0_1 xa0_2 ya0_0 ya0_1 ya0_2 ya0_3 ya1_0 ya1_1 ya1_2) (dAt ya0_0 ya1_0 ya1_1)))) rfl
        have kw0_4 := Bxw0.out.cell (j := 4) (v := .int .i64 ((dV (dealB xa0_0 xa0_1 xa0_2 ya0_0 ya0_1 ya0_2 ya0_3 ya1_0 ya1_1 ya1_2) (dSt ya0_1 ya1_0 ya1_1)))) rfl
        have kw0_5 := Bxw0.out.cell (j := 5) (v := .int .i64 ((dV (dealB xa0_0 xa0_1 xa0_2 ya0_0 ya0_1 ya0_2 ya0_3 ya1_0 ya1_1 ya1_2) (dPu xa0_2 ya0_0 ya0_1 ya0_2 ya1_0 ya1_1)))) rfl
        have kw0_6 := Bxw0.out.cell (j := 6) (v := .int .i64 ((dV (dealB xa0_0 xa0_1 xa0_2 ya0_0 ya0_1 ya0_2 ya0_3 ya1_0 ya1_1 ya1_2) (ya0_3 + 1)))) rfl
        have kg0_0 := Bxg0.out.cell (j := 0) (v := .slice p7_0 q7_0 r7_0) rfl
        have kg0_1 := Bxg0.out.cell (j := 1) (v := .slice p7_1 q7_1 r7_1) rfl
        have kg0_2 := Bxg0.out.cell (j := 2) (v := .slice p7_2 q7_2 r7_2) rfl
        have kg0_3 := Bxg0.out.cell (j := 3) (v := .int .i64 ((dV (dealB xa0_0 xa0_1 xa0_2 ya0_0 ya0_1 ya0_2 ya0_3 ya1_0 ya1_1 ya1_2) (dAt ya0_0 ya1_0 ya1_1)))) rfl
        have kg0_4 := Bxg0.out.cell (j := 4) (v := .int .i64 ((dV (dealB xa0_0 xa0_1 xa0_2 ya0_0 ya0_1 ya0_2 ya0_3 ya1_0 ya1_1 ya1_2) (dSt ya0_1 ya1_0 ya1_1)))) rfl
        have kg0_5 := Bxg0.out.cell (j := 5) (v := .int .i64 ((dV (dealB xa0_0 xa0_1 xa0_2 ya0_0 ya0_1 ya0_2 ya0_3 ya1_0 ya1_1 ya1_2) (dPu xa0_2 ya0_0 ya0_1 ya0_2 ya1_0 ya1_1)))) rfl
        have kg0_6 := Bxg0.out.cell (j := 6) (v := .int .i64 ((dV (dealB xa0_0 xa0_1 xa0_2 ya0_0 ya0_1 ya0_2 ya0_3 ya1_0 ya1_1 ya1_2) (ya0_3 + 1)))) rfl
        have kh0_0 := Bxh0.out.cell (j := 0) (v := .slice p17_0 q17_0 r17_0) rfl
        have kh0_1 := Bxh0.out.cell (j := 1) (v := .slice p17_1 q17_1 r17_1) rfl
        have kh0_2 := Bxh0.out.cell (j := 2) (v := .slice p17_2 q17_2 r17_2) rfl
        have kh0_3 := Bxh0.out.cell (j := 3) (v := .int .i64 ((dV (dealB xa0_0 xa0_1 xa0_2 ya0_0 ya0_1 ya0_2 ya0_3 ya1_0 ya1_1 ya1_2) (dAt ya0_0 ya1_0 ya1_1)))) rfl
        have kh0_4 := Bxh0.out.cell (j := 4) (v := .int .i64 ((dV (dealB xa0_0 xa0_1 xa0_2 ya0_0 ya0_1 ya0_2 ya0_3 ya1_0 ya1_1 ya1_2) (dSt ya0_1 ya1_0 ya1_1)))) rfl
        have kh0_5 := Bxh0.out.cell (j := 5) (v := .int .i64 ((dV (dealB xa0_0 xa0_1 xa0_2 ya0_0 ya0_1 ya0_2 ya0_3 ya1_0 ya1_1 ya1_2) (dPu xa0_2 ya0_0 ya0_1 ya0_2 ya1_0 ya1_1)))) rfl
        have kh0_6 := Bxh0.out.cell (j := 6) (v := .int .i64 ((dV (dealB xa0_0 xa0_1 xa0_2 ya0_0 ya0_1 ya0_2 ya0_3 ya1_0 ya1_1 ya1_2) (ya0_3 + 1)))) rfl
        clear hFx
        go_wp2_with fail
        clear kw0_0 kw0_1 kw0_2 kw0_3 kw0_4 kw0_5 kw0_6 kg0_0 kg0_1 kg0_2 kg0_3 kg0_4 kg0_5 kg0_6 kh0_0 kh0_1 kh0_2 kh0_3 kh0_4 kh0_5 kh0_6
        refine (heldHouse_any _ _ _ _ _ _ _ _ _ _ _ _ _ _ 1 o7_0.sl o7_1.sl o7_2.sl (by omega) (by omega) (by omega) (by omega) (by omega)).mono ?_
        rintro e w19 ⟨rfl, f19⟩
        replace BxaH := Lib.hid (BxaH.out.fr f19)
        replace BxaD := Lib.hid (BxaD.out.fr f19)
        replace Bxw0 := Lib.hid (Bxw0.out.fr f19)
        replace Bxx0 := Lib.hid (Bxx0.out.fr f19)
        replace Bxg0 := Lib.hid (Bxg0.out.fr f19)
        replace Bxh0 := Lib.hid (Bxh0.out.fr f19)
        replace o3_0 := o3_0.fr f19
        replace o3_1 := o3_1.fr f19
        replace o3_2 := o3_2.fr f19
        replace o4_0 := o4_0.fr f19
        replace o4_1 := o4_1.fr f19
        replace o4_2 := o4_2.fr f19
        replace o7_0 := o7_0.fr f19
        replace o7_1 := o7_1.fr f19
        replace o7_2 := o7_2.fr f19
        replace o17_0 := o17_0.fr f19
        replace o17_1 := o17_1.fr f19
        replace o17_2 := o17_2.fr f19
        have z19 := f19.size
        replace hF := hF.trans f19
        clear f19
        have kg0_0 := Bxg0.out.cell (j := 0) (v := .slice p7_0 q7_0 r7_0) rfl
        have kg0_1 := Bxg0.out.cell (j := 1) (v := .slice p7_1 q7_1 r7_1) rfl
        have kg0_2 := Bxg0.out.cell (j := 2) (v := .slice p7_2 q7_2 r7_2) rfl
        have kg0_3 := Bxg0.out.cell (j := 3) (v := .int .i64 ((dV (dealB xa0_0 xa0_1 xa0_2 ya0_0 ya0_1 ya0_2 ya0_3 ya1_0 ya1_1 ya1_2) (dAt ya0_0 ya1_0 ya1_1)))) rfl
        have kg0_4 := Bxg0.out.cell (j := 4) (v := .int .i64 ((dV (dealB xa0_0 xa0_1 xa0_2 ya0_0 ya0_1 ya0_2 ya0_3 ya1_0 ya1_1 ya1_2) (dSt ya0_1 ya1_0 ya1_1)))) rfl
        have kg0_5 := Bxg0.out.cell (j := 5) (v := .int .i64 ((dV (dealB xa0_0 xa0_1 xa0_2 ya0_0 ya0_1 ya0_2 ya0_3 ya1_0 ya1_1 ya1_2) (dPu xa0_2 ya0_0 ya0_1 ya0_2 ya1_0 ya1_1)))) rfl
        have kg0_6 := Bxg0.out.cell (j := 6) (v := .int .i64 ((dV (dealB xa0_0 xa0_1 xa0_2 ya0_0 ya0_1 ya0_2 ya0_3 ya1_0 ya1_1 ya1_2) (ya0_3 + 1)))) rfl
        go_wp2_with fail
        go_ret
        exact ⟨rfl, hF⟩
end Go.Proofs.Ytojipjjfndgbhaa
