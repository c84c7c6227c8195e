import Derived.Test.YtolnloeapbplkaaDoorApnd
import Derived.Deep.RegionHeld3
/- The law FnExactAppendRecord. -/
set_option linter.unusedVariables false
namespace Go.Proofs.YtolnloeapbplkaaDoor
open Go.ChangeShapes Go.WideShapes Go.ChangeAt Go.RowKit

theorem cell3 {w : World} {g b j : Nat} (v0 v1 v2 : Value) (hne : g ≠ b) : (((w.setCell ⟨g, 0, none⟩ v0).setCell ⟨g, 1, none⟩ v1).setCell ⟨g, 2, none⟩ v2).cell? ⟨b, j, none⟩ = w.cell? ⟨b, j, none⟩ := by
  have e : ∀ (x : World) (i : Nat) (v : Value), (x.setCell ⟨g, i, none⟩ v).cell? ⟨b, j, none⟩ = x.cell? ⟨b, j, none⟩ := fun x i v => by
    apply World.cell?_setCell_other; intro h; simp only [Addr.mk.injEq] at h; exact hne h.1
  rw [e, e, e]
set_option maxRecDepth 100000 in
theorem walk_FnExactAppendRecord (s t : ByteArray) (k : Int) (x y : ByteArray) (w : World) (hE : Env w) (hs : s.size ≤ maxLen) (ht : t.size ≤ maxLen) (hk : I64 k) (hx : x.size ≤ maxLen) (hy : y.size ≤ maxLen) :
    Calls Tryd.prog 11 #[.agg #[.string s, .string t, .int .i64 k], .agg #[.string x, .string y]] w fun e w' => e = .returned (.bool true) ∧ Fr w w' := by
  unfold maxLen at hs ht hx hy
  have hfr : Fr w ((w.alloc (.cells #[.string s, .string t, .int .i64 k] 57)).alloc (.cells #[.string x, .string y] 70)) := ((Fr.refl w).alloc _).alloc _
  have B0 := (Box.new w #[.string s, .string t, .int .i64 k] 57).fr ((Fr.refl _).alloc (.cells #[.string x, .string y] 70))
  have B1 := Box.new (w.alloc (.cells #[.string s, .string t, .int .i64 k] 57)) #[.string x, .string y] 70
  rw [World.size_alloc] at B1
  have c0 := B0.cell (j := 0) (v := .string s) rfl; have c1 := B0.cell (j := 1) (v := .string t) rfl; have c2 := B0.cell (j := 2) (v := .int .i64 k) rfl
  have r0 := B1.cell (j := 0) (v := .string x) rfl; have r1 := B1.cell (j := 1) (v := .string y) rfl
  clear B0 B1
  by_cases hz : szR s.size t.size 1048576 < 0
  · go_enter Tryd.func11, Tryd.ntmps11
    go_wp2_with fail
    refine (szLog_any s t k _ _ (by omega) (by omega) (by omega) (by omega)).mono ?_
    rintro e w1 ⟨rfl, f1⟩
    go_wp2
    go_ret
    exact ⟨rfl, hfr.trans f1⟩
  · obtain ⟨z1, z2, z4⟩ := szR_fit hz
    have z3 : s.size + t.size ≤ 1048576 := by omega
    have Z := Lib.hid z4
    by_cases hz2 : szR x.size y.size (szR s.size t.size 1048576) < 0
    · go_enter Tryd.func11, Tryd.ntmps11
      go_wp2_with fail
      refine (szLog_any s t k _ _ (by omega) (by omega) (by omega) (by omega)).mono ?_
      rintro e w1 ⟨rfl, f1⟩
      replace r0 := f1.keep r0; replace r1 := f1.keep r1
      clear z4
      go_wp2_with fail
      refine (szLogRecord_any x y _ _ (by omega) (by omega) (by omega) (by have := Z.out; omega)).mono ?_
      rintro e w2 ⟨rfl, f2⟩
      go_wp2
      go_ret
      exact ⟨rfl, (hfr.trans f1).trans f2⟩
    · obtain ⟨y1, y2, -⟩ := szR_fit hz2
      have z5 : x.size + y.size ≤ 1048576 := by omega
      clear z4 y1 y2 z1 z2
      have SI := Lib.hid (spec_AppendRecord_any s t k x y)
      have IM := Lib.hid (fun W h1 h2 (h : Env W) => impl_AppendRecord_any s t k x y W h1 h2 h)
      generalize apdV s t k x y = V at SI IM
      go_enter Tryd.func11, Tryd.ntmps11
      go_wp2_with fail
      refine (szLog_any s t k _ _ (by omega) (by omega) (by omega) (by omega)).mono ?_
      rintro e w1 ⟨rfl, f1⟩
      replace r0 := f1.keep r0; replace r1 := f1.keep r1; replace c0 := f1.keep c0; replace c1 := f1.keep c1; replace c2 := f1.keep c2
      have hF := hfr.trans f1
      have nz := f1.size
      simp only [World.size_alloc] at nz
      clear f1 hfr
      go_wp2_with fail
      refine (szLogRecord_any x y _ _ (by omega) (by omega) (by omega) (by have := Z.out; omega)).mono ?_
      rintro e w2 ⟨rfl, f2⟩
      replace r0 := f2.keep r0; replace r1 := f2.keep r1; replace c0 := f2.keep c0; replace c1 := f2.keep c1; replace c2 := f2.keep c2
      replace hF := hF.trans f2
      have nz1 := f2.size
      clear f2
      generalize szR x.size y.size (szR s.size t.size 1048576) = zz at hz2 ⊢
      generalize szR s.size t.size 1048576 = zy at hz ⊢
      go_upto_region 8 with fail
      go_cut [6, 7] (fun sa sb wx => ∃ g : Nat, sa = .pointer (some ⟨g, 0, none⟩) ∧ sb = .int .i64 V.2.2 ∧ Box wx g #[.string s, .string V.1, .int .i64 V.2.1] 33 ∧ Fr w2 wx)
      case first =>
        go_region_held3 (fun w' => w'.cell? ⟨w.heap.size, 0, none⟩ = some (.string s) ∧ w'.cell? ⟨w.heap.size, 1, none⟩ = some (.string t) ∧ w'.cell? ⟨w.heap.size, 2, none⟩ = some (.int .i64 k) ∧ w'.cell? ⟨w.heap.size + 1, 0, none⟩ = some (.string x) ∧ w'.cell? ⟨w.heap.size + 1, 1, none⟩ = some (.string y))
          (first | (with_reducible exact ⟨F5.keep c0, F5.keep c1, F5.keep c2, F5.keep r0, F5.keep r1⟩) | (with_reducible exact ⟨F4.keep c0, F4.keep c1, F4.keep c2, F4.keep r0, F4.keep r1⟩) | (with_reducible exact ⟨F3.keep c0, F3.keep c1, F3.keep c2, F3.keep r0, F3.keep r1⟩) | (with_reducible exact ⟨(F5.alloc _).keep c0, (F5.alloc _).keep c1, (F5.alloc _).keep c2, (F5.alloc _).keep r0, (F5.alloc _).keep r1⟩) | (with_reducible exact ⟨(F4.alloc _).keep c0, (F4.alloc _).keep c1, (F4.alloc _).keep c2, (F4.alloc _).keep r0, (F4.alloc _).keep r1⟩) | (with_reducible exact ⟨(F3.alloc _).keep c0, (F3.alloc _).keep c1, (F3.alloc _).keep c2, (F3.alloc _).keep r0, (F3.alloc _).keep r1⟩) | ((with_reducible refine ⟨(cell3 _ _ _ ?_).trans (F5.keep c0), (cell3 _ _ _ ?_).trans (F5.keep c1), (cell3 _ _ _ ?_).trans (F5.keep c2), (cell3 _ _ _ ?_).trans (F5.keep r0), (cell3 _ _ _ ?_).trans (F5.keep r1)⟩) <;> omega) | go_keep)
          (first
            | (go_at_call 47; refine (toLog_any s t k _).mono ?_; rintro e w3 ⟨rfl, f3⟩; have F3 : Fr w2 w3 := (by first | exact ((Fr.refl w2).drew' 1).trans f3 | exact (((Fr.refl w2).alloc _).drew' 1).trans f3); have Y3 := F3.size)
            | (go_at_call 44; refine (toLogRecord_any x y _).mono ?_; rintro e w4 ⟨rfl, f4⟩; have F4 : Fr w2 w4 := (by first | exact F3.trans f4 | exact (F3.alloc _).trans f4); have Y4 := F4.size)
            | (go_at_call 22; refine (SI.out _ z3 z5).mono ?_; rintro e w5 ⟨rfl, f5⟩; have F5 : Fr w2 w5 := (by first | exact F4.trans f5 | exact (F4.alloc _).trans f5); have Y5 := F5.size; (try (have zb := ((((Box.new w2 #[.string ⟨#[]⟩, .string ⟨#[]⟩, .int .i64 0] 33).fr (Fr.drewN _ 1)).fr f3).fr f4).fr f5; have zc0 := zb.cell (j := 0) rfl; have zc1 := zb.cell (j := 1) rfl; have zc2 := zb.cell (j := 2) rfl; have zf0 := zb.free 0; have zf1 := zb.free 1; have zf2 := zb.free 2; clear zb)); (try (have zb := ((Box.new w3 #[.string ⟨#[]⟩, .string ⟨#[]⟩, .int .i64 0] 33).fr f4).fr f5; have zc0 := zb.cell (j := 0) rfl; have zc1 := zb.cell (j := 1) rfl; have zc2 := zb.cell (j := 2) rfl; have zf0 := zb.free 0; have zf1 := zb.free 1; have zf2 := zb.free 2; clear zb)); (try (have zb := (Box.new w4 #[.string ⟨#[]⟩, .string ⟨#[]⟩, .int .i64 0] 33).fr f5; have zc0 := zb.cell (j := 0) rfl; have zc1 := zb.cell (j := 1) rfl; have zc2 := zb.cell (j := 2) rfl; have zf0 := zb.free 0; have zf1 := zb.free 1; have zf2 := zb.free 2; clear zb))))
        all_goals
          go_wp2_with fail
          go_meet
        · exact ⟨w5.heap.size, rfl, rfl, Box.new w5 _ _, F5.alloc _⟩
        · exact ⟨w4.heap.size, rfl, rfl, ((Box.new w4 #[.string ⟨#[]⟩, .string ⟨#[]⟩, .int .i64 0] 33).fr f5).set3 _ _ _, F5.set3 (by have := F4.size; omega) _ _ _⟩
        · exact ⟨w3.heap.size, rfl, rfl, (((Box.new w3 #[.string ⟨#[]⟩, .string ⟨#[]⟩, .int .i64 0] 33).fr f4).fr f5).set3 _ _ _, F5.set3 (by have := F3.size; omega) _ _ _⟩
        · exact ⟨w2.heap.size, rfl, rfl, (((((Box.new w2 #[.string ⟨#[]⟩, .string ⟨#[]⟩, .int .i64 0] 33).fr (Fr.drewN _ 1)).fr f3).fr f4).fr f5).set3 _ _ _, F5.set3 (Nat.le_refl _) _ _ _⟩
      case rest =>
        obtain ⟨g, rfl, rfl, D0, fc⟩ := hcut
        obtain ⟨w6, rfl⟩ : ∃ wz : World, wz = wc := ⟨_, rfl⟩
        replace r0 := fc.keep r0; replace r1 := fc.keep r1; replace c0 := fc.keep c0; replace c1 := fc.keep c1; replace c2 := fc.keep c2
        replace hF := hF.trans fc
        have nz2 := fc.size
        have hE6 := hE.fr hF
        clear fc
        go_upto_region 9 with fail
        go_cut [8, 9] (fun sa sb wx => ∃ g : Nat, sa = .pointer (some ⟨g, 0, none⟩) ∧ sb = .int .i64 V.2.2 ∧ Box wx g #[.string s, .string V.1, .int .i64 V.2.1] 33 ∧ Fr w6 wx)
        case first =>
          go_region_held3 (fun w' => w'.cell? ⟨w.heap.size, 0, none⟩ = some (.string s) ∧ w'.cell? ⟨w.heap.size, 1, none⟩ = some (.string t) ∧ w'.cell? ⟨w.heap.size, 2, none⟩ = some (.int .i64 k) ∧ w'.cell? ⟨w.heap.size + 1, 0, none⟩ = some (.string x) ∧ w'.cell? ⟨w.heap.size + 1, 1, none⟩ = some (.string y))
            (first | (with_reducible exact ⟨F9.keep c0, F9.keep c1, F9.keep c2, F9.keep r0, F9.keep r1⟩) | (with_reducible exact ⟨F8.keep c0, F8.keep c1, F8.keep c2, F8.keep r0, F8.keep r1⟩) | (with_reducible exact ⟨F7.keep c0, F7.keep c1, F7.keep c2, F7.keep r0, F7.keep r1⟩) | (with_reducible exact ⟨(F9.alloc _).keep c0, (F9.alloc _).keep c1, (F9.alloc _).keep c2, (F9.alloc _).keep r0, (F9.alloc _).keep r1⟩) | (with_reducible exact ⟨(F8.alloc _).keep c0, (F8.alloc _).keep c1, (F8.alloc _).keep c2, (F8.alloc _).keep r0, (F8.alloc _).keep r1⟩) | (with_reducible exact ⟨(F7.alloc _).keep c0, (F7.alloc _).keep c1, (F7.alloc _).keep c2, (F7.alloc _).keep r0, (F7.alloc _).keep r1⟩) | ((with_reducible refine ⟨(cell3 _ _ _ ?_).trans (F9.keep c0), (cell3 _ _ _ ?_).trans (F9.keep c1), (cell3 _ _ _ ?_).trans (F9.keep c2), (cell3 _ _ _ ?_).trans (F9.keep r0), (cell3 _ _ _ ?_).trans (F9.keep r1)⟩) <;> omega) | go_keep)
            (first
              | (go_at_call 47; refine (toLog_any s t k _).mono ?_; rintro e w7 ⟨rfl, f7⟩; have F7 : Fr w6 w7 := (by first | exact ((Fr.refl w6).drew' 1).trans f7 | exact (((Fr.refl w6).alloc _).drew' 1).trans f7); have Y7 := F7.size)
              | (go_at_call 44; refine (toLogRecord_any x y _).mono ?_; rintro e w8 ⟨rfl, f8⟩; have F8 : Fr w6 w8 := (by first | exact F7.trans f8 | exact (F7.alloc _).trans f8); have Y8 := F8.size)
              | (go_at_call 21; refine (IM.out _ z3 z5 (hE6.fr (by first | exact F8 | exact F8.alloc _))).mono ?_; rintro e w9 ⟨rfl, f9⟩; have F9 : Fr w6 w9 := (by first | exact F8.trans f9 | exact (F8.alloc _).trans f9); have Y9 := F9.size; (try (have zb := ((((Box.new w6 #[.string ⟨#[]⟩, .string ⟨#[]⟩, .int .i64 0] 33).fr (Fr.drewN _ 1)).fr f7).fr f8).fr f9; have zc0 := zb.cell (j := 0) rfl; have zc1 := zb.cell (j := 1) rfl; have zc2 := zb.cell (j := 2) rfl; have zf0 := zb.free 0; have zf1 := zb.free 1; have zf2 := zb.free 2; clear zb)); (try (have zb := ((Box.new w7 #[.string ⟨#[]⟩, .string ⟨#[]⟩, .int .i64 0] 33).fr f8).fr f9; have zc0 := zb.cell (j := 0) rfl; have zc1 := zb.cell (j := 1) rfl; have zc2 := zb.cell (j := 2) rfl; have zf0 := zb.free 0; have zf1 := zb.free 1; have zf2 := zb.free 2; clear zb)); (try (have zb := (Box.new w8 #[.string ⟨#[]⟩, .string ⟨#[]⟩, .int .i64 0] 33).fr f9; have zc0 := zb.cell (j := 0) rfl; have zc1 := zb.cell (j := 1) rfl; have zc2 := zb.cell (j := 2) rfl; have zf0 := zb.free 0; have zf1 := zb.free 1; have zf2 := zb.free 2; clear zb))))
          all_goals
            go_wp2_with fail
            go_meet
          · exact ⟨w9.heap.size, rfl, rfl, Box.new w9 _ _, F9.alloc _⟩
          · exact ⟨w8.heap.size, rfl, rfl, ((Box.new w8 #[.string ⟨#[]⟩, .string ⟨#[]⟩, .int .i64 0] 33).fr f9).set3 _ _ _, F9.set3 (by have := F8.size; omega) _ _ _⟩
          · exact ⟨w7.heap.size, rfl, rfl, (((Box.new w7 #[.string ⟨#[]⟩, .string ⟨#[]⟩, .int .i64 0] 33).fr f8).fr f9).set3 _ _ _, F9.set3 (by have := F7.size; omega) _ _ _⟩
          · exact ⟨w6.heap.size, rfl, rfl, (((((Box.new w6 #[.string ⟨#[]⟩, .string ⟨#[]⟩, .int .i64 0] 33).fr (Fr.drewN _ 1)).fr f7).fr f8).fr f9).set3 _ _ _, F9.set3 (Nat.le_refl _) _ _ _⟩
        case rest =>
          obtain ⟨g', rfl, rfl, D1, fc⟩ := hcut
          obtain ⟨w10, rfl⟩ : ∃ wz : World, wz = wc := ⟨_, rfl⟩
          replace hF := hF.trans fc
          replace D0 := D0.fr fc
          have d0 := D0.cell (j := 0) rfl; have d1 := D0.cell (j := 1) rfl; have d2 := D0.cell (j := 2) rfl
          have g0 := D1.cell (j := 0) rfl; have g1 := D1.cell (j := 1) rfl; have g2 := D1.cell (j := 2) rfl
          clear fc c0 c1 c2 r0 r1 SI IM
          go_wp2_with fail
          refine (eqLog_same s V.1 V.2.1 _).mono ?_
          rintro e w11 ⟨rfl, f11⟩
          clear d0 d1 d2 g0 g1 g2 D0 D1
          go_wp2
          go_ret
          exact ⟨rfl, hF.trans f11⟩
end Go.Proofs.YtolnloeapbplkaaDoor
