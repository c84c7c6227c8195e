import Derived.Test.YtojipjjfndgbhaaZH24
import Derived.Deep.DeepMust
import Derived.Deep.CutRange
/- Draws of houses. -/
set_option linter.unusedVariables false
namespace Go.Proofs.Ytojipjjfndgbhaa
open Go.ChangeShapes Go.WideShapes Go.ChangeAt Go.RowKit
set_option maxRecDepth 100000 in
set_option maxHeartbeats 4000000 in
theorem house_dr {g A : Nat} {w0 : World} (w : World) (h : Dr g A w0 w) (hA : A ≤ 800000000) :
    Calls Try.prog 103 #[.pointer (some ⟨g, 0, none⟩)] w fun e w' => ∃ (hh : HSt) (p q a : Option Addr) (n c m d l b : Nat), e = .returned (.agg #[.slice p n c, .slice q m d, .slice a l b, .int .i64 hh.t, .int .i64 hh.s, .int .i64 hh.u, .int .i64 hh.v]) ∧ HsN 51 w.heap.size w' p q a n c m d l b hh ∧ Dr g (A + 3000) w0 w' ∧ Dr g (A + 3000) w w' := by
  have hg0 := h.cur.lt
  have HD0 := Lib.hid ((Dr.refl h.cur).alloc (.cells #[.slice none 0 0, .slice none 0 0, .slice none 0 0, .int .i64 0, .int .i64 0, .int .i64 0, .int .i64 0] 31))
  have H2 := Lib.hid (Blk.new w #[.slice none 0 0, .slice none 0 0, .slice none 0 0, .int .i64 0, .int .i64 0, .int .i64 0, .int .i64 0] 31)
  go_enter Try.func103, Try.ntmps103
  go_upto_region 1 with fail
  generalize hw1 : w.alloc (.cells #[.slice none 0 0, .slice none 0 0, .slice none 0 0, .int .i64 0, .int .i64 0, .int .i64 0, .int .i64 0] 31) = w1 at HD0 H2 ⊢
  have z1 : w1.heap.size = w.heap.size + 1 := by rw [← hw1]; simp
  clear hw1
  have hg : g < w1.heap.size := by omega
  have zlt : w.heap.size < w1.heap.size := by omega
  clear z1
  have HGR : Hid (g ≠ w.heap.size) := Lib.hid (by omega)
  go_wp2_with fail
  refine (someTree_dr _ 12 (Dr.refl HD0.out.cur) (by omega) (by omega)).mono ?_
  rintro e w2 ⟨p, n, c, q, m, d, rfl, ⟨P, oP⟩, ⟨W, oW⟩, hle, D2, -⟩
  have s2 := D2.size
  have f2 := (Fr.refl w2).alloc (.cells #[.slice p n c, .slice q m d] 29)
  have BT := Blk.new w2 #[.slice p n c, .slice q m d] 29
  have D3 := D2.fr f2
  have oP3 := oP.fr f2; have oW3 := oW.fr f2
  have hpg : Hid (∀ k, blkOf p = some k → k ≠ g) := Lib.hid fun k e => by have := (oP.blk k e).1; omega
  have hqg : Hid (∀ k, blkOf q = some k → k ≠ g) := Lib.hid fun k e => by have := (oW.blk k e).1; omega
  clear oP oW f2 D2
  generalize hb3 : w2.heap.size = b3 at BT s2
  go_upto_region 2 with fail
  clear hb3
  generalize w2.alloc _ = w3 at BT D3 oP3 oW3 ⊢
  go_cut [4, 5] from 11 to 18 (fun s4 s5 wx => ∃ (k : Nat) (hh : HSt) (bb : Bool) (p q a : Option Addr) (n c m d l b : Nat), s4 = .pointer (some ⟨k, 0, none⟩) ∧ s5 = .bool bb ∧ (bb = true → hOk hh = true) ∧ HoI 50 w3 g (A + 1500) k p q a n c m d l b hh wx)
  case first =>
    have c0 := BT.cell (j := 0) rfl; have c1 := BT.cell (j := 1) rfl
    have f1 : Fr w3 w3.drew := (Fr.refl w3).drew' 1
    have f2 : Fr w3 (w3.drew.alloc (.cells #[.slice none 0 0, .slice none 0 0, .slice none 0 0, .int .i64 0, .int .i64 0, .int .i64 0, .int .i64 0] 31)) := f1.alloc _
    have f3 : Fr w3 (w3.alloc (.cells #[.slice none 0 0, .slice none 0 0, .slice none 0 0, .int .i64 0, .int .i64 0, .int .i64 0, .int .i64 0] 31)).drew := ((Fr.refl w3).alloc (.cells #[.slice none 0 0, .slice none 0 0, .slice none 0 0, .int .i64 0, .int .i64 0, .int .i64 0, .int .i64 0] 31)).drew' 1
    have hg3 : g < w3.heap.size := D3.cur.lt
    have HGT : Hid (g ≠ b3) := Lib.hid (by omega)
    have HV := Lib.hid (fun (V : World) (f : Fr w3 V) => And.intro (D3.fr f) (And.intro (oP3.fr f) (And.intro (oW3.fr f) (And.intro (BT.fr f) ((Dr.refl D3.cur).fr f)))))
    have Z2 : Blk (w3.drew.alloc (.cells #[.slice none 0 0, .slice none 0 0, .slice none 0 0, .int .i64 0, .int .i64 0, .int .i64 0, .int .i64 0] 31)) w3.heap.size #[.slice none 0 0, .slice none 0 0, .slice none 0 0, .int .i64 0, .int .i64 0, .int .i64 0, .int .i64 0] 31 := Blk.new w3.drew _ _
    have Z3 : Blk (w3.alloc (.cells #[.slice none 0 0, .slice none 0 0, .slice none 0 0, .int .i64 0, .int .i64 0, .int .i64 0, .int .i64 0] 31)).drew w3.heap.size #[.slice none 0 0, .slice none 0 0, .slice none 0 0, .int .i64 0, .int .i64 0, .int .i64 0, .int .i64 0] 31 := (Blk.new w3 _ _).fr ((Fr.refl _).drew' 1)
    have HZ : Hid (g ≠ w3.heap.size) := Lib.hid (by omega)
    have n3 : w3.heap.size ≠ b3 := by have := BT.lt; omega
    clear oP3 oW3 D3 BT
    go_region_held3 (fun w' => w'.cell? ⟨b3, 0, none⟩ = some (.slice p n c) ∧ w'.cell? ⟨b3, 1, none⟩ = some (.slice q m d))
      (first | (with_reducible exact ⟨(cell7 _ _ _ _ _ _ _ nc3).trans kz0, (cell7 _ _ _ _ _ _ _ nc3).trans kz1⟩) | (with_reducible exact ⟨(cell7 _ _ _ _ _ _ _ nb3).trans kz0, (cell7 _ _ _ _ _ _ _ nb3).trans kz1⟩) | (with_reducible exact ⟨(cell7 _ _ _ _ _ _ _ n3).trans kz0, (cell7 _ _ _ _ _ _ _ n3).trans kz1⟩) | (with_reducible exact ⟨kz0, kz1⟩) | (with_reducible exact ⟨ky0, ky1⟩) | (with_reducible exact ⟨kx0, kx1⟩) | (with_reducible exact ⟨c0, c1⟩) | go_keep)
      (first
        | (go_at_call 102; (with_reducible refine (fair3_dr _ p q n c m d P W (HV.out _ f1).1 (by omega) (HV.out _ f1).2.1.sl (HV.out _ f1).2.2.1.sl hpg.out hqg.out (by omega)).mono ?_); rintro e wb ⟨a, l, j, rfl, ⟨X, oX⟩, hl, D4, E4⟩; have HW := HV.out _ f1; have BB := E4.blk HW.2.2.2.1 HGT.out; have ky0 : wb.cell? ⟨b3, 0, none⟩ = some (.slice p n c) := BB.cell rfl; have ky1 : wb.cell? ⟨b3, 1, none⟩ = some (.slice q m d) := BB.cell rfl; have PB := (E4.own HW.2.1 hg).sl; have WB := (E4.own HW.2.2.1 hg).sl; have XB := oX.sl; have EB := HW.2.2.2.2.trans E4; have nb3 : wb.heap.size ≠ b3 := (by have := BB.lt; omega); have fbz := (Fr.refl wb).alloc (.cells #[.slice none 0 0, .slice none 0 0, .slice none 0 0, .int .i64 0, .int .i64 0, .int .i64 0, .int .i64 0] 31); first | (with_reducible have ZB := E4.blk Z2 HZ.out) | (with_reducible have ZB := E4.blk Z3 HZ.out) | skip)
        | (go_at_call 102; (with_reducible refine (fair3_dr _ p q n c m d P W (HV.out _ f3).1 (by omega) (HV.out _ f3).2.1.sl (HV.out _ f3).2.2.1.sl hpg.out hqg.out (by omega)).mono ?_); rintro e wb ⟨a, l, j, rfl, ⟨X, oX⟩, hl, D4, E4⟩; have HW := HV.out _ f3; have BB := E4.blk HW.2.2.2.1 HGT.out; have ky0 : wb.cell? ⟨b3, 0, none⟩ = some (.slice p n c) := BB.cell rfl; have ky1 : wb.cell? ⟨b3, 1, none⟩ = some (.slice q m d) := BB.cell rfl; have PB := (E4.own HW.2.1 hg).sl; have WB := (E4.own HW.2.2.1 hg).sl; have XB := oX.sl; have EB := HW.2.2.2.2.trans E4; have nb3 : wb.heap.size ≠ b3 := (by have := BB.lt; omega); have fbz := (Fr.refl wb).alloc (.cells #[.slice none 0 0, .slice none 0 0, .slice none 0 0, .int .i64 0, .int .i64 0, .int .i64 0, .int .i64 0] 31); first | (with_reducible have ZB := E4.blk Z2 HZ.out) | (with_reducible have ZB := E4.blk Z3 HZ.out) | skip)
        | (go_at_call 102; (with_reducible refine (fair3_dr _ p q n c m d P W (HV.out _ f2).1 (by omega) (HV.out _ f2).2.1.sl (HV.out _ f2).2.2.1.sl hpg.out hqg.out (by omega)).mono ?_); rintro e wb ⟨a, l, j, rfl, ⟨X, oX⟩, hl, D4, E4⟩; have HW := HV.out _ f2; have BB := E4.blk HW.2.2.2.1 HGT.out; have ky0 : wb.cell? ⟨b3, 0, none⟩ = some (.slice p n c) := BB.cell rfl; have ky1 : wb.cell? ⟨b3, 1, none⟩ = some (.slice q m d) := BB.cell rfl; have PB := (E4.own HW.2.1 hg).sl; have WB := (E4.own HW.2.2.1 hg).sl; have XB := oX.sl; have EB := HW.2.2.2.2.trans E4; have nb3 : wb.heap.size ≠ b3 := (by have := BB.lt; omega); have fbz := (Fr.refl wb).alloc (.cells #[.slice none 0 0, .slice none 0 0, .slice none 0 0, .int .i64 0, .int .i64 0, .int .i64 0, .int .i64 0] 31); first | (with_reducible have ZB := E4.blk Z2 HZ.out) | (with_reducible have ZB := E4.blk Z3 HZ.out) | skip)
        | (go_at_call 21; (with_reducible refine (NewHouse_st _ p q n c m d P W a l j X PB WB XB).mono ?_); rintro e wc ⟨hh, bb, p2, q2, a2, n2, c2, m2, d2, l2, b2, rfl, hok, N2, f5⟩; have F5 : Fr wb wc := f5; have kz0 := F5.keep ky0; have kz1 := F5.keep ky1; have nc3 : wc.heap.size ≠ b3 := (by have := BB.lt; have := F5.size; omega); first | (with_reducible have ZC := ZB.fr F5; have u0 := ZC.cell (j := 0) rfl; have v0 := ZC.free 0; have u1 := ZC.cell (j := 1) rfl; have v1 := ZC.free 1; have u2 := ZC.cell (j := 2) rfl; have v2 := ZC.free 2; have u3 := ZC.cell (j := 3) rfl; have v3 := ZC.free 3; have u4 := ZC.cell (j := 4) rfl; have v4 := ZC.free 4; have u5 := ZC.cell (j := 5) rfl; have v5 := ZC.free 5; have u6 := ZC.cell (j := 6) rfl; have v6 := ZC.free 6) | (with_reducible have ZC := (Blk.new wb _ _).fr f5; have u0 := ZC.cell (j := 0) rfl; have v0 := ZC.free 0; have u1 := ZC.cell (j := 1) rfl; have v1 := ZC.free 1; have u2 := ZC.cell (j := 2) rfl; have v2 := ZC.free 2; have u3 := ZC.cell (j := 3) rfl; have v3 := ZC.free 3; have u4 := ZC.cell (j := 4) rfl; have v4 := ZC.free 4; have u5 := ZC.cell (j := 5) rfl; have v5 := ZC.free 5; have u6 := ZC.cell (j := 6) rfl; have v6 := ZC.free 6) | skip)
        | (go_at_call 21; (with_reducible refine (NewHouse_st _ p q n c m d P W a l j X (PB.fr fbz) (WB.fr fbz) (XB.fr fbz)).mono ?_); rintro e wc ⟨hh, bb, p2, q2, a2, n2, c2, m2, d2, l2, b2, rfl, hok, N2, f5⟩; have F5 : Fr wb wc := fbz.trans f5; have kz0 := F5.keep ky0; have kz1 := F5.keep ky1; have nc3 : wc.heap.size ≠ b3 := (by have := BB.lt; have := F5.size; omega); first | (with_reducible have ZC := ZB.fr F5; have u0 := ZC.cell (j := 0) rfl; have v0 := ZC.free 0; have u1 := ZC.cell (j := 1) rfl; have v1 := ZC.free 1; have u2 := ZC.cell (j := 2) rfl; have v2 := ZC.free 2; have u3 := ZC.cell (j := 3) rfl; have v3 := ZC.free 3; have u4 := ZC.cell (j := 4) rfl; have v4 := ZC.free 4; have u5 := ZC.cell (j := 5) rfl; have v5 := ZC.free 5; have u6 := ZC.cell (j := 6) rfl; have v6 := ZC.free 6) | (with_reducible have ZC := (Blk.new wb _ _).fr f5; have u0 := ZC.cell (j := 0) rfl; have v0 := ZC.free 0; have u1 := ZC.cell (j := 1) rfl; have v1 := ZC.free 1; have u2 := ZC.cell (j := 2) rfl; have v2 := ZC.free 2; have u3 := ZC.cell (j := 3) rfl; have v3 := ZC.free 3; have u4 := ZC.cell (j := 4) rfl; have v4 := ZC.free 4; have u5 := ZC.cell (j := 5) rfl; have v5 := ZC.free 5; have u6 := ZC.cell (j := 6) rfl; have v6 := ZC.free 6) | skip))
    all_goals
      have HOK := Lib.hid hok
      clear hok kz0 kz1 ky0 ky1 PB WB XB HW n3 nb3 nc3
      go_wp2_with fail
      go_meet
    all_goals
      first
        | (with_reducible exact ⟨_, hh, bb, _, _, _, _, _, _, _, _, _, rfl, rfl, HOK.out, HoI.made N2 EB.size ((EB.fr f5).mono (by omega))⟩)
        | (have y1 := World.size_alloc wb (.cells #[.slice none 0 0, .slice none 0 0, .slice none 0 0, .int .i64 0, .int .i64 0, .int .i64 0, .int .i64 0] 31); have y2 := EB.size; with_reducible exact ⟨_, hh, bb, _, _, _, _, _, _, _, _, _, rfl, rfl, HOK.out, HoI.of ZC N2 (by omega) (N2.low (by omega)) ((EB.fr F5).mono (by omega)) hg3 y2⟩)
        | (have y1 := ZB.lt; with_reducible exact ⟨_, hh, bb, _, _, _, _, _, _, _, _, _, rfl, rfl, HOK.out, HoI.of ZC N2 EB.size (N2.low y1) ((EB.fr F5).mono (by omega)) hg3 (Nat.le_refl _)⟩)
        | (trace_state; fail)
  case rest =>
    obtain ⟨k, hh, bb, p4, q4, a4, n4, c4, m4, d4, l4, b4, rfl, rfl, hok, S⟩ := hcut
    obtain ⟨w4, rfl⟩ : ∃ wz : World, wz = wc := ⟨_, rfl⟩
    have hg3 : g < w3.heap.size := D3.cur.lt
    have hBT := BT.lt
    cases bb
    · have B4 := S.D.blk BT (show g ≠ b3 by omega)
      have P4 := S.D.own oP3 hg; have W4 := S.D.own oW3 hg
      have D14 := D3.trans S.D
      have c0 := B4.cell (j := 0) rfl; have c1 := B4.cell (j := 1) rfl
      have f1 : Fr w4 w4.drew := (Fr.refl w4).drew' 1
      have D15 := D14.fr f1
      have HD := Lib.hid (fun (V : World) (E : Dr g (A + 1500 + 100) w1 V) => And.intro (E.blk H2.out HGR.out) ((HD0.out.trans E).mono (show A + 1500 + 100 ≤ A + 3000 by omega)))
      have HB4 := Lib.hid (B4.fr f1)
      have HPW := Lib.hid (And.intro (P4.fr f1) (W4.fr f1))
      have HGB : Hid (g ≠ b3) := Lib.hid (by omega)
      clear S oP3 oW3 P4 W4 D14 BT D3 B4
      go_upto_region 4 with fail
      go_region_held3 (fun w' => w'.cell? ⟨b3, 0, none⟩ = some (.slice p n c) ∧ w'.cell? ⟨b3, 1, none⟩ = some (.slice q m d))
        (first | (with_reducible exact ⟨(cell7 _ _ _ _ _ _ _ n3).trans ky0, (cell7 _ _ _ _ _ _ _ n3).trans ky1⟩) | (with_reducible exact ⟨ky0, ky1⟩) | (with_reducible exact ⟨c0, c1⟩) | go_keep)
        (first
          | (go_at_call 135; (with_reducible refine (pays_dr _ p q n c m d D15 (by omega) (by omega)).mono ?_); rintro e wb ⟨a, l, j, rfl, ⟨X, oX⟩, hl, D5, E5⟩; have BB := E5.blk HB4.out HGB.out; have ky0 : wb.cell? ⟨b3, 0, none⟩ = some (.slice p n c) := BB.cell rfl; have ky1 : wb.cell? ⟨b3, 1, none⟩ = some (.slice q m d) := BB.cell rfl; have HE := HD.out _ D5; have ZC := HE.1; have n3 : w.heap.size ≠ b3 := (by omega); have u0 := ZC.cell (j := 0) rfl; have v0 := ZC.free 0; have u1 := ZC.cell (j := 1) rfl; have v1 := ZC.free 1; have u2 := ZC.cell (j := 2) rfl; have v2 := ZC.free 2; have u3 := ZC.cell (j := 3) rfl; have v3 := ZC.free 3; have u4 := ZC.cell (j := 4) rfl; have v4 := ZC.free 4; have u5 := ZC.cell (j := 5) rfl; have v5 := ZC.free 5; have u6 := ZC.cell (j := 6) rfl; have v6 := ZC.free 6))
      have P5 := E5.own HPW.out.1 hg; have W5 := E5.own HPW.out.2 hg
      have sz5 := D5.size
      have N5 : HsN 51 w1.heap.size wb p q a n c m d l j ⟨P, W, X, 0, 0, 0, 0⟩ := ⟨P5, W5, oX.mono (by have := D15.size; exact this), fun z e1 e2 => by have := (HPW.out.1.blk z e1).2; have := (oX.blk z e2).1; omega, fun z e1 e2 => by have := (HPW.out.2.blk z e1).2; have := (oX.blk z e2).1; omega, ⟨zeroI, zeroI, zeroI, zeroI⟩, by omega⟩
      have FIN := Lib.hid (And.intro (ZC.set7 (.slice p n c) (.slice q m d) (.slice a l j) (.int .i64 0) (.int .i64 0) (.int .i64 0) (.int .i64 0)) (And.intro ((N5.set7 (N5.low zlt) (.slice p n c) (.slice q m d) (.slice a l j) (.int .i64 0) (.int .i64 0) (.int .i64 0) (.int .i64 0)).mono (Nat.le_of_lt zlt) (Nat.le_refl _)) (HE.2.set7 (Nat.le_refl _) hg0 (.slice p n c) (.slice q m d) (.slice a l j) (.int .i64 0) (.int .i64 0) (.int .i64 0) (.int .i64 0))))
      clear P5 W5 N5 HE ZC E5 D5 oX BB
      go_wp2
      refine bodyPost_ret (results_H Try.results103 _ _ w.heap.size _ _ _ _ _ _ _ rfl (FIN.out.1.cell rfl) (FIN.out.1.cell rfl) (FIN.out.1.cell rfl) (FIN.out.1.cell rfl) (FIN.out.1.cell rfl) (FIN.out.1.cell rfl) (FIN.out.1.cell rfl)) rfl ?_
      exact ⟨⟨P, W, X, 0, 0, 0, 0⟩, _, _, _, _, _, _, _, _, _, rfl, FIN.out.2.1, h.trans FIN.out.2.2, FIN.out.2.2⟩
    · have hok1 : Hid (hOk hh = true) := Lib.hid (hok rfl)
      clear hok
      have HD3 := Lib.hid D3
      clear BT oP3 oW3 D3
      go_wp2_with fail
      refine (pick_dr _ 6 S.D (by omega) (by unfold I64; omega)).mono ?_
      rintro e w5 ⟨r, rfl, hr, D5, E5⟩
      have S5 := S.step hg3 E5
      clear S D5 E5
      obtain ⟨r, rfl⟩ := Int.eq_ofNat_of_zero_le hr.1
      have hr5 : r ≤ 5 := by omega
      clear hr
      have S6 := S5.mono (show A + 1500 + 2 ≤ A + 1510 + 50 * (5 - r) by omega)
      clear S5
      go_wp2
      go_loopw [6] (fun i wr => ∃ (x : Nat) (hh : HSt) (p4 q4 a4 : Option Addr) (n4 c4 m4 d4 l4 b4 : Nat), x ≤ 5 ∧ i = .int .i64 x ∧ Hid (hOk hh = true) ∧ HoI 50 w3 g (A + 1510 + 50 * (5 - x)) k p4 q4 a4 n4 c4 m4 d4 l4 b4 hh wr) (fun i _ => (intOf i).toNat)
      case atStart => exact ⟨r, hh, _, _, _, _, _, _, _, _, _, hr5, rfl, hok1, S6⟩
      case round =>
        clear S6 hok1
        obtain ⟨x, hh, p4, q4, a4, n4, c4, m4, d4, l4, b4, hx, rfl, HOK, S⟩ := hrel
        obtain ⟨wo, rfl⟩ : ∃ wz : World, wz = wr := ⟨_, rfl⟩
        by_cases h0 : 0 < x
        · have vx : (0 : Int) < (x : Int) := by omega
          go_upto_region 8 with fail
          go_cut [7, 8] from 32 to 39 (fun s7 s8 wx => ∃ (j : Nat) (h2 : HSt) (bb : Bool) (p2 q2 a2 : Option Addr) (n2 c2 m2 d2 l2 b2 : Nat), s7 = .pointer (some ⟨j, 0, none⟩) ∧ s8 = .bool bb ∧ (bb = true → hOk h2 = true) ∧ NxI 50 w3 g (A + 1510 + 50 * (5 - x) + 50) k j p4 q4 a4 n4 c4 m4 d4 l4 b4 hh wo.heap.size p2 q2 a2 n2 c2 m2 d2 l2 b2 h2 wx)
          case first =>
            have f1 : Fr wo wo.drew := (Fr.refl wo).drew' 1
            have f3 : Fr wo (wo.alloc (.cells #[.slice none 0 0, .slice none 0 0, .slice none 0 0, .int .i64 0, .int .i64 0, .int .i64 0, .int .i64 0] 31)).drew := ((Fr.refl wo).alloc (.cells #[.slice none 0 0, .slice none 0 0, .slice none 0 0, .int .i64 0, .int .i64 0, .int .i64 0, .int .i64 0] 31)).drew' 1
            have Z3 : Blk (wo.alloc (.cells #[.slice none 0 0, .slice none 0 0, .slice none 0 0, .int .i64 0, .int .i64 0, .int .i64 0, .int .i64 0] 31)).drew wo.heap.size #[.slice none 0 0, .slice none 0 0, .slice none 0 0, .int .i64 0, .int .i64 0, .int .i64 0, .int .i64 0] 31 := (Blk.new wo _ _).fr ((Fr.refl _).drew' 1)
            have kx := S.all
            have HOB : Hid (houseB hh.P hh.W hh.X hh.t hh.s hh.u hh.v = true) := HOK
            have hl4 : l4 ≤ 1000000 := by have := S.N.le; omega
            have HPG : Hid (∀ z, blkOf p4 = some z → z ≠ g) := Lib.hid fun z e => by have := (S.N.op.blk z e).1; omega
            have hgo : g < wo.heap.size := S.D.cur.lt
            have HZ : Hid (g ≠ wo.heap.size) := Lib.hid (by omega)
            have HH := Lib.hid (fun j (hj : wo.heap.size ≤ j) => S.N.high hj)
            have hw3 := S.D.size
            have HV := Lib.hid (fun (V : World) (f : Fr wo V) => S.fr f)
            have no : wo.heap.size ≠ k := by have := S.B.lt; omega
            clear S
            obtain ⟨k0, k1, k2, k3, k4, k5, k6⟩ := kx
            go_region_held3 (fun w' => w'.cell? ⟨k, 0, none⟩ = some (.slice p4 n4 c4) ∧ w'.cell? ⟨k, 1, none⟩ = some (.slice q4 m4 d4) ∧ w'.cell? ⟨k, 2, none⟩ = some (.slice a4 l4 b4) ∧ w'.cell? ⟨k, 3, none⟩ = some (.int .i64 hh.t) ∧ w'.cell? ⟨k, 4, none⟩ = some (.int .i64 hh.s) ∧ w'.cell? ⟨k, 5, none⟩ = some (.int .i64 hh.u) ∧ w'.cell? ⟨k, 6, none⟩ = some (.int .i64 hh.v))
              (first | (with_reducible exact SC.all7 nc _ _ _ _ _ _ _) | (with_reducible exact SC.all7 nb _ _ _ _ _ _ _) | (with_reducible exact SC.all7 no _ _ _ _ _ _ _) | (with_reducible exact SC.all) | (with_reducible exact (SC.fr ((Fr.refl _).alloc _)).all) | (with_reducible exact SB.all) | (with_reducible exact ⟨k0, k1, k2, k3, k4, k5, k6⟩) | go_keep)
              (first
        | (go_at_call 104; (with_reducible refine (deal12_dr _ p4 q4 a4 n4 c4 m4 d4 l4 b4 hh.P hh.W hh.X hh.t hh.s hh.u hh.v (HV.out _ f1).D (by omega) (HV.out _ f1).N.op.sl HOB.out hl4 HPG.out).mono ?_); rintro e wb ⟨kd, da, db, rfl, hI, D4, E4⟩; have SB := (HV.out _ f1).step hg3 E4; have zb := E4.size; have fbz := (Fr.refl wb).alloc (.cells #[.slice none 0 0, .slice none 0 0, .slice none 0 0, .int .i64 0, .int .i64 0, .int .i64 0, .int .i64 0] 31); have nb : wb.heap.size ≠ k := (by have := SB.B.lt; omega); first | (with_reducible have ZB := E4.blk Z3 HZ.out) | skip)
        | (go_at_call 104; (with_reducible refine (deal12_dr _ p4 q4 a4 n4 c4 m4 d4 l4 b4 hh.P hh.W hh.X hh.t hh.s hh.u hh.v (HV.out _ f3).D (by omega) (HV.out _ f3).N.op.sl HOB.out hl4 HPG.out).mono ?_); rintro e wb ⟨kd, da, db, rfl, hI, D4, E4⟩; have SB := (HV.out _ f3).step hg3 E4; have zb := E4.size; have fbz := (Fr.refl wb).alloc (.cells #[.slice none 0 0, .slice none 0 0, .slice none 0 0, .int .i64 0, .int .i64 0, .int .i64 0, .int .i64 0] 31); have nb : wb.heap.size ≠ k := (by have := SB.B.lt; omega); first | (with_reducible have ZB := E4.blk Z3 HZ.out) | skip)
        | (go_at_call 92; (with_reducible refine (l12Do_st _ p4 q4 a4 n4 c4 m4 d4 l4 b4 hh kd da db SB.N.op.sl SB.N.oq.sl SB.N.ox.sl HOK.out hI).mono ?_); rintro e wc ⟨h2, bb, p2, q2, a2, n2, c2, m2, d2, l2, b2, rfl, hok2, N2, f5⟩; have F5 : Fr wb wc := f5; have SC := SB.fr F5; have nc : wc.heap.size ≠ k := (by have := SC.B.lt; omega); first | (with_reducible have ZC := ZB.fr F5; have u0 := ZC.cell (j := 0) rfl; have v0 := ZC.free 0; have u1 := ZC.cell (j := 1) rfl; have v1 := ZC.free 1; have u2 := ZC.cell (j := 2) rfl; have v2 := ZC.free 2; have u3 := ZC.cell (j := 3) rfl; have v3 := ZC.free 3; have u4 := ZC.cell (j := 4) rfl; have v4 := ZC.free 4; have u5 := ZC.cell (j := 5) rfl; have v5 := ZC.free 5; have u6 := ZC.cell (j := 6) rfl; have v6 := ZC.free 6) | (with_reducible have ZC := (Blk.new wb _ _).fr f5; have u0 := ZC.cell (j := 0) rfl; have v0 := ZC.free 0; have u1 := ZC.cell (j := 1) rfl; have v1 := ZC.free 1; have u2 := ZC.cell (j := 2) rfl; have v2 := ZC.free 2; have u3 := ZC.cell (j := 3) rfl; have v3 := ZC.free 3; have u4 := ZC.cell (j := 4) rfl; have v4 := ZC.free 4; have u5 := ZC.cell (j := 5) rfl; have v5 := ZC.free 5; have u6 := ZC.cell (j := 6) rfl; have v6 := ZC.free 6) | skip)
        | (go_at_call 92; (with_reducible refine (l12Do_st _ p4 q4 a4 n4 c4 m4 d4 l4 b4 hh kd da db (SB.fr fbz).N.op.sl (SB.fr fbz).N.oq.sl (SB.fr fbz).N.ox.sl HOK.out hI).mono ?_); rintro e wc ⟨h2, bb, p2, q2, a2, n2, c2, m2, d2, l2, b2, rfl, hok2, N2, f5⟩; have F5 : Fr wb wc := fbz.trans f5; have SC := SB.fr F5; have nc : wc.heap.size ≠ k := (by have := SC.B.lt; omega); first | (with_reducible have ZC := ZB.fr F5; have u0 := ZC.cell (j := 0) rfl; have v0 := ZC.free 0; have u1 := ZC.cell (j := 1) rfl; have v1 := ZC.free 1; have u2 := ZC.cell (j := 2) rfl; have v2 := ZC.free 2; have u3 := ZC.cell (j := 3) rfl; have v3 := ZC.free 3; have u4 := ZC.cell (j := 4) rfl; have v4 := ZC.free 4; have u5 := ZC.cell (j := 5) rfl; have v5 := ZC.free 5; have u6 := ZC.cell (j := 6) rfl; have v6 := ZC.free 6) | (with_reducible have ZC := (Blk.new wb _ _).fr f5; have u0 := ZC.cell (j := 0) rfl; have v0 := ZC.free 0; have u1 := ZC.cell (j := 1) rfl; have v1 := ZC.free 1; have u2 := ZC.cell (j := 2) rfl; have v2 := ZC.free 2; have u3 := ZC.cell (j := 3) rfl; have v3 := ZC.free 3; have u4 := ZC.cell (j := 4) rfl; have v4 := ZC.free 4; have u5 := ZC.cell (j := 5) rfl; have v5 := ZC.free 5; have u6 := ZC.cell (j := 6) rfl; have v6 := ZC.free 6) | skip))
            all_goals
              have HK2 := Lib.hid hok2
              have HSC := Lib.hid SC
              clear hok2 SC SB HV k0 k1 k2 k3 k4 k5 k6
              go_wp2_with fail
              go_meet
            all_goals
              have y0 := World.size_alloc wo (.cells #[.slice none 0 0, .slice none 0 0, .slice none 0 0, .int .i64 0, .int .i64 0, .int .i64 0, .int .i64 0] 31)
              have y1 := World.size_alloc wb (.cells #[.slice none 0 0, .slice none 0 0, .slice none 0 0, .int .i64 0, .int .i64 0, .int .i64 0, .int .i64 0] 31)
              have y3 : wo.heap.size ≤ wb.heap.size := by first | (have : wo.drew.heap.size = wo.heap.size := rfl; omega) | (have : (wo.alloc (.cells #[.slice none 0 0, .slice none 0 0, .slice none 0 0, .int .i64 0, .int .i64 0, .int .i64 0, .int .i64 0] 31)).drew.heap.size = wo.heap.size + 1 := World.size_alloc _ _; omega)
              first
                | (with_reducible exact ⟨_, h2, bb, _, _, _, _, _, _, _, _, _, rfl, rfl, HK2.out, NxI.made HSC.out N2 y3⟩)
                | (with_reducible exact ⟨_, h2, bb, _, _, _, _, _, _, _, _, _, rfl, rfl, HK2.out, NxI.of HSC.out ZC N2 (by omega) hg3 (by omega) nb (HH.out _ y3) (by omega)⟩)
                | (have y4 := ZB.lt; with_reducible exact ⟨_, h2, bb, _, _, _, _, _, _, _, _, _, rfl, rfl, HK2.out, NxI.of HSC.out ZC N2 y3 hg3 (by omega) no (HH.out _ (Nat.le_refl _)) y4⟩)
                | (trace_state; fail)
          case rest =>
            obtain ⟨j, h2, bb, p2, q2, a2, n2, c2, m2, d2, l2, b2, rfl, rfl, hok2, T⟩ := hcut
            obtain ⟨w6, rfl⟩ : ∃ wz : World, wz = wc := ⟨_, rfl⟩
            have hkw := S.B.lt
            have hw3 := S.D.size
            clear S
            cases bb
            · have S7 := T.S.mono (show A + 1510 + 50 * (5 - x) + 50 ≤ A + 1510 + 50 * (5 - (x - 1)) by omega)
              clear T hok2
              go_wp2
              go_roundw
              case rel => exact ⟨x - 1, hh, _, _, _, _, _, _, _, _, _, by omega, by go_num, HOK, S7⟩
              case measure => simp [intOf]; omega
            · have HK2 := Lib.hid (hok2 rfl)
              have c0 := T.Z.cell (j := 0) (v := .slice p2 n2 c2) rfl; have c1 := T.Z.cell (j := 1) (v := .slice q2 m2 d2) rfl; have c2x := T.Z.cell (j := 2) (v := .slice a2 l2 b2) rfl; have c3 := T.Z.cell (j := 3) (v := .int .i64 h2.t) rfl; have c4x := T.Z.cell (j := 4) (v := .int .i64 h2.s) rfl; have c5 := T.Z.cell (j := 5) (v := .int .i64 h2.u) rfl; have c6 := T.Z.cell (j := 6) (v := .int .i64 h2.v) rfl
              have k0 := T.S.c0; have k1 := T.S.c1; have k2 := T.S.c2; have k3 := T.S.c3; have k4 := T.S.c4; have k5 := T.S.c5; have k6 := T.S.c6
              have i0 := T.S.B.free 0; have i1 := T.S.B.free 1; have i2 := T.S.B.free 2; have i3 := T.S.B.free 3; have i4 := T.S.B.free 4; have i5 := T.S.B.free 5; have i6 := T.S.B.free 6
              have S7 := Lib.hid ((T.S.put hg3 T.N hw3 (T.N.low hkw)).mono (show A + 1510 + 50 * (5 - x) + 50 ≤ A + 1510 + 50 * (5 - (x - 1)) by omega))
              clear T hok2
              go_wp2
              go_roundw
              case rel => exact ⟨x - 1, h2, _, _, _, _, _, _, _, _, _, by omega, by go_num, HK2, S7.out⟩
              case measure => simp [intOf]; omega
        · obtain rfl : x = 0 := by omega
          have S7 := S.mono (show A + 1510 + 50 * (5 - 0) ≤ A + 1800 by omega)
          clear S
          go_wp2_with fail
          refine (pick_dr _ 48 S7.D (by omega) (by unfold I64; omega)).mono ?_
          rintro e w5 ⟨r, rfl, hr, D5, E5⟩
          have S8 := S7.step hg3 E5
          clear S7 D5 E5
          go_upto_block 2 with fail
          go_cut [] from 44 to 74 (fun wx => ∃ (h2 : HSt) (p2 q2 a2 : Option Addr) (n2 c2 m2 d2 l2 b2 : Nat), HoI 51 w3 g (A + 1900) k p2 q2 a2 n2 c2 m2 d2 l2 b2 h2 wx)
          case first =>
            by_cases h0 : r = 0
            · subst h0
              go_wp2_with fail
              refine (among_dr _ (-1) 1001 [-1, 1000, 1001] _ _ _ _ S8.D (by omega) rfl rfl (by decide) (by decide) (by first | rfl | simp) (by decide)).mono ?_
              rintro e w6 ⟨z, rfl, hz, D6, E6⟩
              have S9 := S8.step hg3 E6
              have S10 := S9.setV hg3 (z := z) (by unfold I64; omega)
              have fz := S9.B.free 6
              have cz := S9.c6
              clear S8 D6 E6
              go_wp2_with fail
              go_meet
              exact ⟨_, _, _, _, _, _, _, _, _, _, (S10.mono (by omega)).wide (by omega)⟩
            by_cases h1 : r = 1
            · subst h1
              go_wp2_with fail
              refine (among_dr _ (-1) 24 [-1, 24] _ _ _ _ S8.D (by omega) rfl rfl (by decide) (by decide) (by first | rfl | simp) (by decide)).mono ?_
              rintro e w6 ⟨z, rfl, hz, D6, E6⟩
              have S9 := S8.step hg3 E6
              have S10 := S9.setT hg3 (z := z) (by unfold I64; omega)
              have fz := S9.B.free 3
              have cz := S9.c3
              clear S8 D6 E6
              go_wp2_with fail
              go_meet
              exact ⟨_, _, _, _, _, _, _, _, _, _, (S10.mono (by omega)).wide (by omega)⟩
            by_cases h2 : r = 2
            · subst h2
              go_wp2_with fail
              refine (among_dr _ (-1000001) 1000001 [1000000, -1000000, 1000001, -1000001] _ _ _ _ S8.D (by omega) rfl rfl (by decide) (by decide) (by first | rfl | simp) (by decide)).mono ?_
              rintro e w6 ⟨z, rfl, hz, D6, E6⟩
              have S9 := S8.step hg3 E6
              have S10 := S9.setU hg3 (z := z) (by unfold I64; omega)
              have fz := S9.B.free 5
              have cz := S9.c5
              clear S8 D6 E6
              go_wp2_with fail
              go_meet
              exact ⟨_, _, _, _, _, _, _, _, _, _, (S10.mono (by omega)).wide (by omega)⟩
            by_cases h3 : r = 3
            · subst h3
              go_wp2_with fail
              refine (among_dr _ (-21) 21 [20, 21, -21] _ _ _ _ S8.D (by omega) rfl rfl (by decide) (by decide) (by first | rfl | simp) (by decide)).mono ?_
              rintro e w6 ⟨z, rfl, hz, D6, E6⟩
              have S9 := S8.step hg3 E6
              have S10 := S9.setS hg3 (z := z) (by unfold I64; omega)
              have fz := S9.B.free 4
              have cz := S9.c4
              clear S8 D6 E6
              go_wp2_with fail
              go_meet
              exact ⟨_, _, _, _, _, _, _, _, _, _, (S10.mono (by omega)).wide (by omega)⟩
            have b0 : (r == 0) = false := by simp [h0]
            have b1 : (r == 1) = false := by simp [h1]
            have b2 : (r == 2) = false := by simp [h2]
            have b3x : (r == 3) = false := by simp [h3]
            by_cases h4 : r = 4
            · subst h4
              have c2 := S8.c2
              have oX := S8.N.ox
              have hsz := S8.D.size
              have hl4 := S8.N.le
              go_wp2_with (at_builtin; refine ap_int _ rfl _ _ rfl w3.heap.size a4 l4 b4 hh.X _ rfl rfl oX hsz (by unfold I64; omega) (by omega) ?_)
              intro g' c' w' q1 q2 q3
              have B2 := S8.B.grown q2 S8.ne.2.2
              have m0 := B2.cell (j := 2) (v := .slice a4 l4 b4) rfl
              have m1 := B2.free 2
              have S9 := S8.appX hg3 q1 q2 q3
              clear S8 oX q1 q2 B2 c2
              go_wp2_with fail
              go_meet
              exact ⟨_, _, _, _, _, _, _, _, _, _, S9.mono (by omega)⟩
            have b4x : (r == 4) = false := by simp [h4]
            go_wp2_with fail
            go_meet
            exact ⟨_, _, _, _, _, _, _, _, _, _, (S8.mono (by omega)).wide (by omega)⟩
          case rest =>
            obtain ⟨h2, p2, q2, a2, n2, c2, m2, d2, l2, b2, S9⟩ := hcut
            obtain ⟨w6, rfl⟩ : ∃ wz : World, wz = wc := ⟨_, rfl⟩
            clear S8
            have D14 := HD3.out.trans S9.D
            have R4 := D14.blk H2.out HGR.out
            have hs3 := HD3.out.size
            have N9 := S9.N.mono hs3 (Nat.le_refl _)
            have FIN := Lib.hid (And.intro (R4.set7 (.slice p2 n2 c2) (.slice q2 m2 d2) (.slice a2 l2 b2) (.int .i64 h2.t) (.int .i64 h2.s) (.int .i64 h2.u) (.int .i64 h2.v)) (And.intro ((N9.set7 (N9.low zlt) (.slice p2 n2 c2) (.slice q2 m2 d2) (.slice a2 l2 b2) (.int .i64 h2.t) (.int .i64 h2.s) (.int .i64 h2.u) (.int .i64 h2.v)).mono (Nat.le_of_lt zlt) (Nat.le_refl _)) (((HD0.out.trans D14).mono (show A + 1900 ≤ A + 3000 by omega)).set7 (Nat.le_refl _) hg0 (.slice p2 n2 c2) (.slice q2 m2 d2) (.slice a2 l2 b2) (.int .i64 h2.t) (.int .i64 h2.s) (.int .i64 h2.u) (.int .i64 h2.v))))
            have k0 := S9.c0; have k1 := S9.c1; have k2 := S9.c2; have k3 := S9.c3; have k4 := S9.c4; have k5 := S9.c5; have k6 := S9.c6
            have u0 := R4.cell (j := 0) rfl; have u1 := R4.cell (j := 1) rfl; have u2 := R4.cell (j := 2) rfl; have u3 := R4.cell (j := 3) rfl; have u4 := R4.cell (j := 4) rfl; have u5 := R4.cell (j := 5) rfl; have u6 := R4.cell (j := 6) rfl
            have i0 := R4.free 0; have i1 := R4.free 1; have i2 := R4.free 2; have i3 := R4.free 3; have i4 := R4.free 4; have i5 := R4.free 5; have i6 := R4.free 6
            clear S9 N9 D14 R4
            go_wp2
            refine bodyPost_ret (results_H Try.results103 _ _ w.heap.size _ _ _ _ _ _ _ rfl (FIN.out.1.cell rfl) (FIN.out.1.cell rfl) (FIN.out.1.cell rfl) (FIN.out.1.cell rfl) (FIN.out.1.cell rfl) (FIN.out.1.cell rfl) (FIN.out.1.cell rfl)) rfl ?_
            exact ⟨h2, _, _, _, _, _, _, _, _, _, rfl, FIN.out.2.1, h.trans FIN.out.2.2, FIN.out.2.2⟩
end Go.Proofs.Ytojipjjfndgbhaa
