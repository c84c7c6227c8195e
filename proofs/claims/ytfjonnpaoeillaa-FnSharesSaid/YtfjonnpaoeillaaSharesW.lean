import Derived.Test.YtfjonnpaoeillaaDrawA4
import Derived.Test.YtfjonnpaoeillaaSplitsM
import Derived.Test.YtfjonnpaoeillaaCut
import Derived.Test.YtfjonnpaoeillaaLawH
import Derived.ChangeKeysEq
import Derived.Deep.DeepCutAuto
import Derived.Deep.CutRange
/- The law FnShares. -/
set_option linter.unusedVariables false
namespace Go.Proofs.Ytfjonnpaoeillaa
open Go.ChangeShapes Go.WideShapes Go.ChangeAt Go.RowKit
theorem neq_pair (w : World) (a b : Int) : (binOp .neq 29 (.agg #[.int .i64 a, .int .i64 b]) (.agg #[.int .i64 a, .int .i64 b])).run Try.prog w = .ok (.bool false) w := by
  obtain ⟨i, hi, _⟩ := info_parts infoInt
  have hc : Try.prog.cellsOf 3 = 1 := by kernel_rfl
  rw [run_neq_struct, Go.run_equalIn_array w 9999 (t := 29) (e := 3) (n := 2) _ _ Try.underlying29 hi, hc]
  simp [Op.eqItems, List.range, List.range.loop, go_sem, Try.underlying3]
set_option maxRecDepth 100000 in
set_option maxHeartbeats 2000000 in
theorem walk_FnShares (a : Option Addr) (n cap : Nat) (zs : List Int) (w : World) (h : SLB w a n cap zs) :
    Calls Try.prog 9 #[.slice a n cap] w fun e w' => e = .returned (.bool true) ∧ Fr w w' := by
  have hle := h.le; have hmx := h.mx
  have HV := Lib.hid (rBig_any w a n cap (by omega))
  by_cases hbig : 65536 < n
  · have hd : decide (65536 < n) = true := decide_eq_true hbig
    rw [hd] at HV
    go_enter Try.func9, Try.ntmps9
    go_wp2_with fail
    refine HV.out.mono ?_
    rintro e w' ⟨rfl, rfl⟩
    go_wp2
    go_ret
    exact ⟨rfl, Fr.refl _⟩
  · have hd : decide (65536 < n) = false := decide_eq_false hbig
    rw [hd] at HV
    have H := Lib.hid h
    clear h
    go_enter Try.func9, Try.ntmps9
    go_wp2_with fail
    refine HV.out.mono ?_
    rintro e w' ⟨rfl, rfl⟩
    clear HV hd
    go_wp2_with fail
    refine (DrawBestShare_any w a n cap zs H.out).mono ?_
    rintro e w1 ⟨A, B, X, Y, N, rfl, hA, hB, hX, hY, hN, F⟩
    have IA : I64 A := I64.small hA (by omega) (by omega)
    have IB : I64 B := I64.small hB (by omega) (by omega)
    have IX : I64 X := I64.small hX (by omega) (by omega)
    have IY : I64 Y := I64.small hY (by omega) (by omega)
    have IN : I64 N := I64.small hN (by omega) (by omega)
    have bS := Lib.hid (fun W => spec_BestShare_any W A B X Y N IA IB IX IY IN)
    have bI := Lib.hid (fun W => impl_BestShare_any W A B X Y N IA IB IX IY IN)
    have K1 : Hid (bestOk A B X Y N = true → betB A B X Y = true ∧ bestV A B X Y N * fairB A B X Y - N * fairA A B X Y < fairB A B X Y ∧ -(bestV A B X Y N * fairB A B X Y - N * fairA A B X Y) < fairB A B X Y) := Lib.hid fun h => ⟨(bestOk_iff.1 h).1, best_near h⟩
    have K0 : Hid (bestOk A B X Y N = true → (0 ≤ bestV A B X Y N ∧ bestV A B X Y N ≤ 10) ∧ (0 ≤ N ∧ N ≤ 10) ∧ (0 ≤ fairA A B X Y ∧ fairA A B X Y ≤ 100) ∧ (0 < fairB A B X Y ∧ fairB A B X Y ≤ 100) ∧ (0 ≤ bestV A B X Y N * fairB A B X Y ∧ bestV A B X Y N * fairB A B X Y ≤ 1000) ∧ 0 ≤ N * fairA A B X Y ∧ N * fairA A B X Y ≤ 1000) := Lib.hid best_bd
    have K2 : Hid (betB A B X Y = true → decide (0 < fairA A B X Y) = decide (0 < fbV A B X Y)) := Lib.hid fair_sign
    have fS := Lib.hid (fun W => spec_FairShare_any W A B X Y IA IB IX IY)
    have fI := Lib.hid (fun W => impl_FairShare_any W A B X Y IA IB IX IY)
    have gS := Lib.hid (fun W => spec_IsFairBet_any W A B X Y IA IB IX IY)
    have gI := Lib.hid (fun W => impl_IsFairBet_any W A B X Y IA IB IX IY)
    generalize bestV A B X Y N = bv at bS bI K1 K0
    generalize bestOk A B X Y N = bo at bS bI K1 K0
    generalize fairA A B X Y = p at K1 K0 K2 fS fI
    generalize fairB A B X Y = q at K1 K0 fS fI
    generalize fbV A B X Y = r at K2 gS gI
    generalize betB A B X Y = t at K1 K2 fS fI gS gI
    go_wp2_with fail
    refine (bI.out _).mono ?_
    rintro e w2 ⟨rfl, f⟩
    replace F := F.trans f; clear f bI
    go_wp2_with fail
    refine (bS.out _).mono ?_
    rintro e w3 ⟨rfl, f⟩
    replace F := F.trans f; clear f bS
    go_wp2_with fail
    refine (fI.out _).mono ?_
    rintro e w4 ⟨rfl, f⟩
    replace F := F.trans f; clear f fI
    go_wp2_with fail
    refine (fS.out _).mono ?_
    rintro e w5 ⟨rfl, f⟩
    have Bx : ∀ {W : World}, Fr ((w4.alloc (.cells #[.int .i64 p, .int .i64 q] 29))) W → W.cell? ⟨w4.heap.size, 0, none⟩ = some (.int .i64 p) ∧ W.cell? ⟨w4.heap.size, 1, none⟩ = some (.int .i64 q) := fun f => ⟨f.newCell rfl, f.newCell rfl⟩
    replace F := (F.alloc (.cells #[.int .i64 p, .int .i64 q] 29)).trans f
    obtain ⟨c0, c1⟩ := Bx f
    clear Bx fS
    have f2 := (Fr.refl w5).alloc (.cells #[.int .i64 p, .int .i64 q] 29)
    have d0 := f2.keep c0; have d1 := f2.keep c1
    have e0 := (Fr.refl (w5.alloc (.cells #[.int .i64 p, .int .i64 q] 29))).newCell (j := 0) (v := .int .i64 p) rfl
    have e1 := (Fr.refl (w5.alloc (.cells #[.int .i64 p, .int .i64 q] 29))).newCell (j := 1) (v := .int .i64 q) rfl
    have heq := fun W : World => neq_pair W p q
    replace F := F.trans f2
    clear f f2 c0 c1
    go_upto_region 10 with fail
    obtain ⟨W6, HW6⟩ : ∃ W, W = w5.alloc (.cells #[.int .i64 p, .int .i64 q] 29) := ⟨_, rfl⟩
    rw [← HW6] at d0 d1 e0 e1 F ⊢
    clear HW6
    go_cut [118] from 104 to 118 (fun s wx => s = .bool false ∧ wx = W6)
    case first =>
      cases bo <;> cases t
      all_goals first
        | (exfalso; have := (K1.out rfl).1; cases this; done)
        | (go_wp2_with fail; go_meet; exact ⟨rfl, rfl⟩)
    case rest =>
      obtain ⟨rfl, rfl⟩ := hcut
      clear e0 e1 heq
      go_wp2_with fail
      refine (gI.out _).mono ?_
      rintro e w7 ⟨rfl, f⟩
      replace d0 := f.keep d0; replace d1 := f.keep d1; replace F := F.trans f; clear f gI
      go_wp2_with fail
      refine (gS.out _).mono ?_
      rintro e w8 ⟨rfl, f⟩
      replace d0 := f.keep d0; replace d1 := f.keep d1; replace F := F.trans f; clear f gS
      go_upto_region 14 with fail
      go_cut [158] from 137 to 158 (fun s wx => s = .bool false ∧ wx = w8)
      case first =>
        cases t
        · go_wp2_with fail; go_meet; exact ⟨rfl, rfl⟩
        · have hk := K2.out rfl
          by_cases hp : 0 < p
          · have hr : 0 < r := by rw [decide_eq_true hp] at hk; exact of_decide_eq_true hk.symm
            clear hk
            go_wp2_with fail; go_meet; exact ⟨rfl, rfl⟩
          · have hr : ¬ 0 < r := by rw [decide_eq_false hp] at hk; exact of_decide_eq_false hk.symm
            clear hk
            go_wp2_with fail; go_meet; exact ⟨rfl, rfl⟩
      case rest =>
        obtain ⟨rfl, rfl⟩ := hcut
        obtain ⟨w9, rfl⟩ : ∃ wz : World, wz = wc := ⟨_, rfl⟩
        clear K2
        -- a growth
        go_wp2_with fail
        refine (DrawGrowthOf_any _ a n cap zs (H.out.fr F)).mono ?_
        rintro e w10 ⟨A2, B2, X2, Y2, N2, M2, rfl, hA2, hB2, hX2, hY2, hN2, hM2, f⟩
        replace d0 := f.keep d0; replace d1 := f.keep d1; replace F := F.trans f; clear f
        have IA2 : I64 A2 := I64.small hA2 (by omega) (by omega)
        have IB2 : I64 B2 := I64.small hB2 (by omega) (by omega)
        have IX2 : I64 X2 := I64.small hX2 (by omega) (by omega)
        have IY2 : I64 Y2 := I64.small hY2 (by omega) (by omega)
        have IN2 : I64 N2 := I64.small hN2 (by omega) (by omega)
        have IM2 : I64 M2 := I64.small hM2 (by omega) (by omega)
        have uS := Lib.hid (fun W => spec_GrowthOf_any W A2 B2 X2 Y2 N2 M2 IA2 IB2 IX2 IY2 IN2 IM2)
        have uI := Lib.hid (fun W => impl_GrowthOf_any W A2 B2 X2 Y2 N2 M2 IA2 IB2 IX2 IY2 IN2 IM2)
        have vI := Lib.hid (fun W => impl_BestShare_any W A2 B2 X2 Y2 N2 IA2 IB2 IX2 IY2 IN2)
        have wI := Lib.hid (fun W h => impl_GrowthOf_any W A2 B2 X2 Y2 N2 (bestV A2 B2 X2 Y2 N2) IA2 IB2 IX2 IY2 IN2 h)
        have K3 := Lib.hid (fun h : shareOk A2 B2 X2 Y2 N2 M2 = true => grow_most h)
        have K4 : Hid (bestOk A2 B2 X2 Y2 N2 = true → I64 (bestV A2 B2 X2 Y2 N2)) := Lib.hid fun h => by have := (best_bd h).1; unfold I64; omega
        generalize growV A2 B2 X2 Y2 N2 M2 = gv at uS uI K3
        generalize shareOk A2 B2 X2 Y2 N2 M2 = gk at uS uI K3
        generalize growV A2 B2 X2 Y2 N2 (bestV A2 B2 X2 Y2 N2) = gm at wI K3
        generalize shareOk A2 B2 X2 Y2 N2 (bestV A2 B2 X2 Y2 N2) = gb at wI K3
        generalize bestV A2 B2 X2 Y2 N2 = tv at vI wI K4
        generalize bestOk A2 B2 X2 Y2 N2 = tb at vI K3 K4
        go_wp2_with fail
        refine (uI.out _).mono ?_
        rintro e w11 ⟨rfl, f⟩
        replace d0 := f.keep d0; replace d1 := f.keep d1; replace F := F.trans f; clear f uI
        go_wp2_with fail
        refine (uS.out _).mono ?_
        rintro e w12 ⟨rfl, f⟩
        replace d0 := f.keep d0; replace d1 := f.keep d1; replace F := F.trans f; clear f uS
        go_upto_if 196 with fail
        go_cut [] from 197 to 226 (fun wx => Fr w12 wx)
        case first =>
          cases gk
          · go_wp2_with fail; go_meet; exact Fr.refl _
          · obtain ⟨rfl, rfl, hgm⟩ := K3.out rfl
            have hgm2 : ¬ gm < gv := by omega
            go_wp2_with fail
            refine (vI.out _).mono ?_
            rintro e w13 ⟨rfl, f1⟩
            go_wp2_with fail
            refine (wI.out _ (K4.out (by first | exact rfl | trivial))).mono ?_
            rintro e w14 ⟨rfl, f2⟩
            go_wp2_with fail; go_meet; exact f1.trans f2
        case rest =>
          replace d0 := hcut.keep d0; replace d1 := hcut.keep d1; replace F := F.trans hcut; clear hcut K3 K4 vI wI
          obtain ⟨w15, rfl⟩ : ∃ wz : World, wz = wc := ⟨_, rfl⟩
          -- a split
          go_wp2_with fail
          refine (DrawSplitGrowth_any _ a n cap zs (H.out.fr F)).mono ?_
          rintro e w16 ⟨pw, mw, cw, ps, ms, cs, rfl, ⟨ws, ss, hw, hs⟩, hmw, hms, f⟩
          replace d0 := f.keep d0; replace d1 := f.keep d1; replace F := F.trans f; clear f
          have uS := Lib.hid (fun W h k => spec_SplitGrowth_any W pw mw cw ws ps ms cs ss h k)
          have uI := Lib.hid (fun W h k => impl_SplitGrowth_any W pw mw cw ws ps ms cs ss h k)
          have vI := Lib.hid (fun W h => impl_BestSplit_any W pw mw cw ws (wsum ss) h (wsum_rng ss))
          have wI := Lib.hid (fun W q m d h k => impl_SplitGrowth_any W pw mw cw ws q m d (bsV ws (wsum ss)) h k)
          have K3 := Lib.hid (fun h : sgOk ws ss = true => split_most h)
          generalize sgV ws ss = gv at uS uI K3
          generalize sgOk ws ss = gk at uS uI K3
          generalize sgV ws (bsV ws (wsum ss)) = gm at wI K3
          generalize sgOk ws (bsV ws (wsum ss)) = gb at wI K3
          generalize bsOk ws (wsum ss) = tb at vI K3
          go_wp2_with fail
          refine (uI.out _ hw hs).mono ?_
          rintro e w17 ⟨rfl, f⟩
          replace d0 := f.keep d0; replace d1 := f.keep d1; replace F := F.trans f; replace hw := hw.fr f; replace hs := hs.fr f; clear f uI
          go_wp2_with fail
          refine (uS.out _ hw hs).mono ?_
          rintro e w18 ⟨rfl, f⟩
          replace d0 := f.keep d0; replace d1 := f.keep d1; replace F := F.trans f; replace hw := hw.fr f; replace hs := hs.fr f; clear f uS
          go_upto_if 252 with fail
          go_cut [] from 253 to 276 (fun wx => Fr w18 wx)
          case first =>
            cases gk
            · go_wp2_with fail; go_meet; exact Fr.refl _
            · obtain ⟨rfl, rfl, hgm⟩ := K3.out rfl
              have hgm2 : ¬ gm < gv := by omega
              go_wp2_with fail
              refine (rSum_any _ _ _ _ _ hs).mono ?_
              rintro e w' ⟨rfl, rfl⟩
              go_wp2_with fail
              refine (vI.out _ hw).mono ?_
              rintro e w19 ⟨pt, nt, ct, rfl, ot, f1, -⟩
              go_wp2_with fail
              refine (wI.out _ _ _ _ (hw.fr f1) ot.sl).mono ?_
              rintro e w20 ⟨rfl, f2⟩
              go_wp2_with fail; go_meet; exact f1.trans f2
          case rest =>
            replace d0 := hcut.keep d0; replace d1 := hcut.keep d1; replace F := F.trans hcut; clear hcut K3 vI wI hw hs
            obtain ⟨w21, rfl⟩ : ∃ wz : World, wz = wc := ⟨_, rfl⟩
            -- a race
            go_wp2_with fail
            refine (DrawBestSplit_any _ a n cap zs (H.out.fr F)).mono ?_
            rintro e w22 ⟨pr, mr, cr, M, rfl, ⟨rs, hr⟩, hmr, hM, f⟩
            replace d0 := f.keep d0; replace d1 := f.keep d1; replace F := F.trans f; clear f
            have uS := Lib.hid (fun W h => spec_BestSplit_any W pr mr cr rs M h hM)
            have uI := Lib.hid (fun W h => impl_BestSplit_any W pr mr cr rs M h hM)
            have K3 := Lib.hid (fun h : bsOk rs M = true => bs_facts h)
            have K4 := Lib.hid (fun h : bsOk rs M = true => best_prop h)
            generalize bsV rs M = bs at uS uI K3 K4
            generalize bsOk rs M = bb at uS uI K3 K4
            go_wp2_with fail
            refine (uI.out _ hr).mono ?_
            rintro e w23 ⟨pb, nb, cb, rfl, ob, f, -⟩
            replace d0 := f.keep d0; replace d1 := f.keep d1; replace F := F.trans f; replace hr := hr.fr f; clear f uI
            go_wp2_with fail
            refine (uS.out _ hr).mono ?_
            rintro e w24 ⟨pb2, nb2, cb2, rfl, ob2, f, -⟩
            replace d0 := f.keep d0; replace d1 := f.keep d1; replace F := F.trans f; replace hr := hr.fr f; replace ob := ob.fr f; clear f uS
            go_wp2_with fail
            refine (rInts_any _ _ _ _ _ _ _ _ _ ob.sl ob2.sl).mono ?_
            rintro e w25 ⟨rfl, f⟩
            rw [decide_eq_true rfl]
            replace d0 := f.keep d0; replace d1 := f.keep d1; replace F := F.trans f; replace hr := hr.fr f; replace ob := ob.fr f; clear f ob2
            go_upto_region 41 with fail
            go_cut [310] from 303 to 310 (fun s wx => ∃ z, s = .bool z ∧ Hid (z = true → bb = true ∧ M % wsum rs = 0) ∧ wx = w25)
            case first =>
              cases bb
              · go_wp2_with fail; go_meet; exact ⟨false, rfl, Lib.hid (fun h => by cases h), rfl⟩
              · have hs0 : wsum rs ≠ 0 := by have := (K3.out rfl).2.1; omega
                have hM0 := (K3.out rfl).1
                have hs1 := (K3.out rfl).2.1
                go_wp2_with fail
                refine (rSum_any _ _ _ _ _ hr).mono ?_
                rintro e w' ⟨rfl, rfl⟩
                go_wp2_with fail; go_meet
                exact ⟨_, rfl, Lib.hid (fun h => by first | exact ⟨rfl, by simpa using h⟩ | exact ⟨trivial, by simpa using h⟩), rfl⟩
            case rest =>
              obtain ⟨z, rfl, hz, rfl⟩ := hcut
              obtain ⟨w26, rfl⟩ : ∃ wz : World, wz = wc := ⟨_, rfl⟩
              go_upto_if 310 with fail
              go_cut [] from 311 to 330 (fun wx => Fr w26 wx)
              case first =>
                cases z
                · go_wp2_with fail; go_meet; exact Fr.refl _
                · obtain ⟨rfl, hdiv⟩ := hz.out rfl
                  obtain ⟨b1, b2, b3, b4⟩ := K3.out rfl
                  have hp := Lib.hid (K4.out rfl hdiv)
                  have hlr := hr.len
                  have hnb : nb = mr := by rw [← ob.len, b3, hlr]
                  subst hnb
                  have hrs := fun W h => rSum_any W pr nb cr rs h
                  have HW : Hid (0 ≤ M / wsum rs ∧ M / wsum rs ≤ 12) := Lib.hid ⟨Int.ediv_nonneg b1.1 (by omega), Int.le_trans (Int.ediv_le_self _ b1.1) b1.2⟩
                  have HL := Lib.hid hlr
                  clear hlr hz hdiv b3
                  generalize hws : wsum rs = s at *
                  go_wp2_with fail
                  go_loopw [50] (fun i wx => ∃ k : Nat, k ≤ nb ∧ i = .int .i64 k ∧ Qt w26 wx) (fun i _ => nb - (intOf i).toNat)
                  case atStart => exact ⟨0, Nat.zero_le _, rfl, Qt.refl _⟩
                  case round =>
                    obtain ⟨k, hk, rfl, hq⟩ := hrel
                    by_cases hlt : k < nb
                    · obtain ⟨x1, o1, rfl, hc1⟩ := (ob.sl.qt hq).cells.resolve_left (by omega)
                      obtain ⟨x2, o2, rfl, hc2⟩ := (hr.qt hq).cells.resolve_left (by omega)
                      replace hc1 := hc1 k hlt
                      replace hc2 := hc2 k hlt
                      rw [hp.out k (by rw [HL.out]; exact hlt)] at hc1
                      have i1 : (0 : Int) ≤ (k : Int) := by omega
                      have i2 : (k : Int) < (nb : Int) := by omega
                      have i3 := HW.out
                      have i4 := b4 k
                      have i5 : 0 ≤ nth rs k * (M / s) ∧ nth rs k * (M / s) ≤ 4 * 12 := ⟨Int.mul_nonneg i4.1 i3.1, Int.mul_le_mul i4.2 i3.2 i3.1 (by omega)⟩
                      have i6 : IntKind.i64.wrap (nth rs k * (M / s)) = nth rs k * (M / s) := IntWalk.i64_in _ (by omega)
                      have i7 : IntKind.i64.wrap (M / s) = M / s := IntWalk.i64_in _ (by omega)
                      have hrq := hr.qt hq
                      go_wp2
                      go_quiet ((go_at_call 31; exact qofe (hrs _ (hrq.drewN _))))
                      go_wp2
                      go_roundw
                      case rel => exact ⟨k + 1, by omega, by go_num, hq.drewN _⟩
                      case measure => simp [intOf]; omega
                    · go_wp2_with fail; go_meet; exact hq.fr
              case rest =>
                replace d0 := hcut.keep d0; replace d1 := hcut.keep d1; replace F := F.trans hcut; clear hcut K3 K4 hr ob hz
                obtain ⟨w27, rfl⟩ : ∃ wz : World, wz = wc := ⟨_, rfl⟩
                cases bo
                · go_wp2
                  go_ret
                  exact ⟨rfl, F⟩
                · obtain ⟨-, k1, k2⟩ := K1.out rfl
                  obtain ⟨g1, g2, g3, g4, g5, g6⟩ := K0.out rfl
                  go_wp2
                  go_ret
                  exact ⟨rfl, F⟩
end Go.Proofs.Ytfjonnpaoeillaa
