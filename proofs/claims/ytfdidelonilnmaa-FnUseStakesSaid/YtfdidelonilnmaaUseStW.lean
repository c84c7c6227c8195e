import Derived.Test.YtfdidelonilnmaaDrawU2
import Derived.Test.YtfdidelonilnmaaUsesM
import Derived.Test.YtfdidelonilnmaaCut
import Derived.Test.YtfdidelonilnmaaTabH
import Derived.Deep.DeepCutAuto
import Derived.Deep.CutRange
/- The law FnUseStakes. -/
set_option linter.unusedVariables false
namespace Go.Proofs.Ytfdidelonilnmaa
open Go.ChangeShapes Go.WideShapes Go.ChangeAt Go.RowKit
theorem momTo_13 {xs : List Int} (h : ∀ i, 0 ≤ nth xs i ∧ nth xs i ≤ 32768) (k : Nat) (hk : k ≤ 13) : 0 ≤ momTo xs k ∧ momTo xs k ≤ 425984 * k := by
  induction k with
  | zero => simp [momTo]
  | succ k ih =>
    have h1 := ih (by omega)
    have h2 := mul_bd (h k) (show (0 : Int) ≤ (k : Int) ∧ (k : Int) ≤ 13 by omega)
    rw [momTo]; omega
theorem purse_facts {t x y r c m : Int} (h : purseOk t x y r c m = true) : (purseV t x y r c m).length ≤ 13 ∧ (∀ i, 0 ≤ nth (purseV t x y r c m) i ∧ nth (purseV t x y r c m) i ≤ 32768) ∧ ((0 ≤ x ∧ x ≤ 4) ∧ (0 ≤ y ∧ y ≤ 4) ∧ 0 < x + y) ∧ (0 ≤ r ∧ r ≤ 5) ∧ (0 ≤ c ∧ c ≤ 12) ∧
    wsum (purseV t x y r c m) = (x + y) ^ r.toNat ∧ (∀ k, k ≤ r.toNat → 0 < (x + y) ^ k ∧ (x + y) ^ k ≤ 32768) ∧ (∀ k, k ≤ (purseV t x y r c m).length → 0 ≤ momTo (purseV t x y r c m) k ∧ momTo (purseV t x y r c m) k ≤ 6000000) ∧
    (x = y → momTo (purseV t x y r c m) (purseV t x y r c m).length = c * (x + y) ^ r.toNat) ∧ (y < x → c * (x + y) ^ r.toNat ≤ momTo (purseV t x y r c m) (purseV t x y r c m).length) ∧ (x < y → momTo (purseV t x y r c m) (purseV t x y r c m).length ≤ c * (x + y) ^ r.toNat) := by
  obtain ⟨h1, h2, h3, h4, h5⟩ := purseOk_iff.1 h
  obtain ⟨b1, b2, b3⟩ := luck_bd h2
  have e : purseV t x y r c m = purseTo x y m.toNat t.toNat c.toNat r.toNat := by rw [purseV, h]; rfl
  have hl : (purseTo x y m.toNat t.toNat c.toNat r.toNat).length = t.toNat + 1 := purseTo_len _ _ _ _ _ _
  obtain ⟨l1, l2, l3, l4, l5⟩ := purse_laws (M := m.toNat) (T := t.toNat) (C := c.toNat) h2 (by omega) r.toNat (by omega)
  have hp := pow_bd b3 (by omega) r.toNat (by omega)
  have hnb : ∀ i, 0 ≤ nth (purseTo x y m.toNat t.toNat c.toNat r.toNat) i ∧ nth (purseTo x y m.toNat t.toNat c.toNat r.toNat) i ≤ 32768 := fun i => by
    by_cases hi : i < t.toNat + 1
    · have := nth_le_sum l1 hi; exact ⟨l1 i, by omega⟩
    · rw [nth_out (by omega)]; omega
  have hcc : ((c.toNat : Nat) : Int) = c := Int.toNat_of_nonneg (by omega)
  rw [hcc] at l3 l4 l5
  rw [e, hl]
  refine ⟨by omega, hnb, ⟨b1, b2, b3⟩, h3, by omega, ?_, fun k hk => pow_bd b3 (by omega) k (by omega), fun k hk => ?_, l3, l4, l5⟩
  · rw [wsum_eq (M := 32768) (by omega) (fun z hz => by
      obtain ⟨i, hi, rfl⟩ := List.getElem_of_mem hz
      rw [← nth_eq hi]; exact hnb i) (by omega), hl, l2]
  · have := momTo_13 hnb k (by omega); omega
set_option maxRecDepth 100000 in
set_option maxHeartbeats 4000000 in
theorem walk_FnUseStakes (a : Option Addr) (n cap : Nat) (zs : List Int) (w : World) (h : SLB w a n cap zs) :
    Calls Try.prog 13 #[.slice a n cap] w fun e w' => e = .returned (.bool true) ∧ Fr w w' := by
  have hle := h.le; have hmx := h.mx
  have HV := Lib.hid (rBig_any w a n cap (by omega))
  by_cases hbig : 65536 < n
  · have hd : decide (65536 < n) = true := decide_eq_true hbig
    rw [hd] at HV
    go_enter Try.func13, Try.ntmps13
    go_wp2_with fail
    refine HV.out.mono ?_
    rintro e w' ⟨rfl, rfl⟩
    go_wp2
    go_ret
    exact ⟨rfl, Fr.refl _⟩
  · have hd : decide (65536 < n) = false := decide_eq_false hbig
    rw [hd] at HV
    have H := Lib.hid h
    have F := Fr.refl w
    clear h
    go_enter Try.func13, Try.ntmps13
    go_wp2_with fail
    refine HV.out.mono ?_
    rintro e w' ⟨rfl, rfl⟩
    clear HV hd
    -- a table of worths
    go_wp2_with fail
    refine (DrawUseTable_any w a n cap zs H.out).mono ?_
    rintro e w1 ⟨p3, m3, c3, X, Y, R, rfl, ⟨us, h3⟩, hm3, hX, hY, hR, f⟩
    replace F := F.trans f
    clear f
    have IX : I64 X := I64.small hX (by omega) (by omega)
    have IY : I64 Y := I64.small hY (by omega) (by omega)
    have IR : I64 R := I64.small hR (by omega) (by omega)
    have Q1 := Lib.hid (fun W h => impl_UseTable_any W p3 m3 c3 us X Y R h IX IY IR)
    have Q2 := Lib.hid (fun W h => spec_UseTable_any W p3 m3 c3 us X Y R h IX IY IR)
    have Q3 := Lib.hid (fun W h => impl_StakePlan_any W p3 m3 c3 us X Y R h IX IY IR)
    have Q4 := Lib.hid (fun W h => spec_StakePlan_any W p3 m3 c3 us X Y R h IX IY IR)
    have K0 : Hid (roundsB us X Y R = true → tableV us X Y R = tabM us X Y (R.toNat + 1) ∧ planV us X Y R = planM us X Y R.toNat) := Lib.hid fun h => by rw [tableV, planV, h]; exact ⟨rfl, rfl⟩
    have K1 := Lib.hid (fun h : roundsB us X Y R = true => roundsB_iff.1 h)
    generalize tableV us X Y R = tb at Q1 Q2 K0
    generalize planV us X Y R = pn at Q3 Q4 K0
    generalize roundsB us X Y R = ok at Q1 Q2 Q3 Q4 K0 K1
    go_wp2_with fail
    refine (Q1.out _ h3).mono ?_
    rintro e w2 ⟨a4, n4, c4, rfl, o4, f, -⟩
    replace h3 := h3.fr f
    replace F := F.trans f
    clear f
    clear Q1
    go_wp2_with fail
    refine (Q2.out _ h3).mono ?_
    rintro e w3 ⟨a5, n5, c5, rfl, o5, f, -⟩
    replace h3 := h3.fr f
    replace o4 := o4.fr f
    replace F := F.trans f
    clear f
    clear Q2
    go_wp2_with fail
    refine (rTable_any _ _ _ _ _ _ _ _ _ o4.ss o5.ss).mono ?_
    rintro e w4 ⟨rfl, f⟩
    replace h3 := h3.fr f
    replace o4 := o4.fr f
    replace o5 := o5.fr f
    replace F := F.trans f
    clear f
    rw [decide_eq_true rfl]
    clear o5
    go_wp2_with fail
    refine (Q3.out _ h3).mono ?_
    rintro e w5 ⟨a6, n6, c6, rfl, o6, f, -⟩
    replace h3 := h3.fr f
    replace o4 := o4.fr f
    replace F := F.trans f
    clear f
    clear Q3
    go_wp2_with fail
    refine (Q4.out _ h3).mono ?_
    rintro e w6 ⟨a7, n7, c7, rfl, o7, f, -⟩
    replace h3 := h3.fr f
    replace o4 := o4.fr f
    replace o6 := o6.fr f
    replace F := F.trans f
    clear f
    clear Q4
    go_wp2_with fail
    refine (rTable_any _ _ _ _ _ _ _ _ _ o6.ss o7.ss).mono ?_
    rintro e w7 ⟨rfl, f⟩
    replace h3 := h3.fr f
    replace o4 := o4.fr f
    replace o6 := o6.fr f
    replace o7 := o7.fr f
    replace F := F.trans f
    clear f
    rw [decide_eq_true rfl]
    clear o7
    -- a stake
    go_wp2_with fail
    refine (DrawStakeLoss_any _ a n cap zs (H.out.fr F)).mono ?_
    rintro e w8 ⟨pv, mv, cv, X2, Y2, R2, C2, S2, rfl, ⟨vs, hv⟩, hmv, hX2, hY2, hR2, hC2, hS2, f⟩
    replace h3 := h3.fr f
    replace o4 := o4.fr f
    replace o6 := o6.fr f
    replace F := F.trans f
    clear f
    have IX2 : I64 X2 := I64.small hX2 (by omega) (by omega)
    have IY2 : I64 Y2 := I64.small hY2 (by omega) (by omega)
    have IR2 : I64 R2 := I64.small hR2 (by omega) (by omega)
    have IC2 : I64 C2 := I64.small hC2 (by omega) (by omega)
    have IS2 : I64 S2 := I64.small hS2 (by omega) (by omega)
    have Q1 := Lib.hid (fun W h => impl_StakeLoss_any W pv mv cv vs X2 Y2 R2 C2 S2 h IX2 IY2 IR2 IC2 IS2)
    have Q2 := Lib.hid (fun W h => spec_StakeLoss_any W pv mv cv vs X2 Y2 R2 C2 S2 h IX2 IY2 IR2 IC2 IS2)
    have Q3 := Lib.hid (fun W h => impl_UseStake_any W pv mv cv vs X2 Y2 R2 C2 h IX2 IY2 IR2 IC2)
    have Q4 := Lib.hid (fun W h => spec_UseStake_any W pv mv cv vs X2 Y2 R2 C2 h IX2 IY2 IR2 IC2)
    have Q5 := Lib.hid (fun W k h => impl_StakeLoss_any W pv mv cv vs X2 Y2 R2 C2 (stakeV vs X2 Y2 R2 C2) h IX2 IY2 IR2 IC2 k)
    have L0 := loss_nn vs X2 Y2 R2 C2 S2
    have L1 := Lib.hid (fun h : lossB vs X2 Y2 R2 C2 S2 = true => (lossB_iff.1 h).1)
    have L2 := Lib.hid (fun h : coinsB vs X2 Y2 R2 C2 = true => (loss_best h).1)
    have L3 := Lib.hid (fun h : coinsB vs X2 Y2 R2 C2 = true => (loss_best h).2.1)
    have L4 := Lib.hid (fun h : coinsB vs X2 Y2 R2 C2 = true => (loss_best h).2.2 S2)
    have L5 : Hid (coinsB vs X2 Y2 R2 C2 = true → I64 (stakeV vs X2 Y2 R2 C2)) := Lib.hid fun h => by have := (lossB_iff.1 (loss_best h).1).2; unfold mS at this; have := (coinsB_iff.1 h).2.2.2; unfold I64; omega
    generalize lossV vs X2 Y2 R2 C2 (stakeV vs X2 Y2 R2 C2) = lb at Q5 L3
    generalize lossB vs X2 Y2 R2 C2 (stakeV vs X2 Y2 R2 C2) = lk at Q5 L2
    generalize stakeV vs X2 Y2 R2 C2 = sv at Q3 Q4 Q5 L4 L5
    generalize coinsB vs X2 Y2 R2 C2 = cb at Q3 Q4 L1 L2 L3 L4 L5
    generalize lossV vs X2 Y2 R2 C2 S2 = lv at Q1 Q2 L0 L4
    generalize lossB vs X2 Y2 R2 C2 S2 = ls at Q1 Q2 L1 L4
    have L0n : ¬ lv < 0 := by omega
    go_wp2_with fail
    refine (Q1.out _ hv).mono ?_
    rintro e w9 ⟨rfl, f⟩
    replace h3 := h3.fr f
    replace o4 := o4.fr f
    replace o6 := o6.fr f
    replace hv := hv.fr f
    replace F := F.trans f
    clear f
    clear Q1
    go_wp2_with fail
    refine (Q2.out _ hv).mono ?_
    rintro e w10 ⟨rfl, f⟩
    replace h3 := h3.fr f
    replace o4 := o4.fr f
    replace o6 := o6.fr f
    replace hv := hv.fr f
    replace F := F.trans f
    clear f
    clear Q2
    go_wp2_with fail
    refine (Q3.out _ hv).mono ?_
    rintro e w11 ⟨rfl, f⟩
    replace h3 := h3.fr f
    replace o4 := o4.fr f
    replace o6 := o6.fr f
    replace hv := hv.fr f
    replace F := F.trans f
    clear f
    clear Q3
    go_wp2_with fail
    refine (Q4.out _ hv).mono ?_
    rintro e w12 ⟨rfl, f⟩
    replace h3 := h3.fr f
    replace o4 := o4.fr f
    replace o6 := o6.fr f
    replace hv := hv.fr f
    replace F := F.trans f
    clear f
    clear Q4
    go_upto_region 19 with fail
    go_cut [188] from 174 to 188 (fun s wx => s = .bool false ∧ wx = w12)
    case first =>
      as_aux_lemma =>
        cases ls <;> cases cb
        all_goals first
          | (exfalso; have := L1.out rfl; cases this; done)
          | (go_wp2_with fail; go_meet; exact ⟨rfl, rfl⟩)
    case rest =>
      obtain ⟨rfl, rfl⟩ := hcut
      obtain ⟨w40, rfl⟩ : ∃ wz : World, wz = wc := ⟨_, rfl⟩
      go_upto_if 189 with fail
      go_cut [] from 190 to 217 (fun wx => Fr w40 wx)
      case first =>
        as_aux_lemma =>
          cases cb
          · go_wp2_with fail; go_meet; exact Fr.refl _
          · obtain rfl := L2.out rfl
            obtain rfl := L3.out rfl
            go_wp2_with fail
            refine (Q5.out _ (L5.out (by first | exact rfl | trivial)) hv).mono ?_
            rintro e w41 ⟨rfl, f1⟩
            cases ls
            · go_wp2_with fail; go_meet; exact f1
            · by_cases hlt : S2 < sv
              · have hne := L4.out (by first | exact rfl | trivial) (by first | exact rfl | trivial) hlt
                go_wp2_with fail; go_meet; exact f1
              · go_wp2_with fail; go_meet; exact f1
      case rest =>
        replace h3 := h3.fr hcut; replace o4 := o4.fr hcut; replace o6 := o6.fr hcut; replace F := F.trans hcut; clear hcut hv L0 L0n L1 L2 L3 L4 L5 Q5
        obtain ⟨w42, rfl⟩ : ∃ wz : World, wz = wc := ⟨_, rfl⟩
        -- a spread of a purse
        go_wp2_with fail
        refine (DrawPurseSpread_any _ a n cap zs (H.out.fr F)).mono ?_
        rintro e w43 ⟨T, X3, Y3, R3, C3, M3, rfl, hT, hX3, hY3, hR3, hC3, hM3, f⟩
        replace h3 := h3.fr f
        replace o4 := o4.fr f
        replace o6 := o6.fr f
        replace F := F.trans f
        clear f
        have Q1 := Lib.hid (fun W => impl_PurseSpread_any W T X3 Y3 R3 C3 M3 (I64.small hT (by omega) (by omega)) (I64.small hX3 (by omega) (by omega)) (I64.small hY3 (by omega) (by omega)) (I64.small hR3 (by omega) (by omega)) (I64.small hC3 (by omega) (by omega)) (I64.small hM3 (by omega) (by omega)))
        have Q2 := Lib.hid (fun W => spec_PurseSpread_any W T X3 Y3 R3 C3 M3 (I64.small hT (by omega) (by omega)) (I64.small hX3 (by omega) (by omega)) (I64.small hY3 (by omega) (by omega)) (I64.small hR3 (by omega) (by omega)) (I64.small hC3 (by omega) (by omega)) (I64.small hM3 (by omega) (by omega)))
        have P0 := Lib.hid (fun h : purseOk T X3 Y3 R3 C3 M3 = true => purse_facts h)
        generalize purseV T X3 Y3 R3 C3 M3 = sp at Q1 Q2 P0
        generalize purseOk T X3 Y3 R3 C3 M3 = pk at Q1 Q2 P0
        go_wp2_with fail
        refine (Q1.out _).mono ?_
        rintro e w44 ⟨as1, n8, c8, rfl, o8, f, -⟩
        replace h3 := h3.fr f
        replace o4 := o4.fr f
        replace o6 := o6.fr f
        replace F := F.trans f
        clear f
        clear Q1
        go_wp2_with fail
        refine (Q2.out _).mono ?_
        rintro e w45 ⟨as2, n9, c9, rfl, o9, f, -⟩
        replace h3 := h3.fr f
        replace o4 := o4.fr f
        replace o6 := o6.fr f
        replace o8 := o8.fr f
        replace F := F.trans f
        clear f
        clear Q2
        go_wp2_with fail
        refine (rInts_any _ _ _ _ _ _ _ _ _ o8.sl o9.sl).mono ?_
        rintro e w46 ⟨rfl, f⟩
        replace h3 := h3.fr f
        replace o4 := o4.fr f
        replace o6 := o6.fr f
        replace o8 := o8.fr f
        replace o9 := o9.fr f
        replace F := F.trans f
        clear f
        rw [decide_eq_true rfl]
        clear o9
        go_upto_if 256 with fail
        go_cut [] from 257 to 320 (fun wx => Fr w46 wx)
        case first =>
          as_aux_lemma =>
            cases pk
            · go_wp2_with fail; go_meet; exact Fr.refl _
            · obtain ⟨d1, d2, d3, d4, d5, d6, d7, d8, d9, d10, d11⟩ := P0.out rfl
              have hl8 := o8.len
              rw [hl8] at d1 d8 d9 d10 d11
              obtain ⟨r, rfl⟩ := Int.eq_ofNat_of_zero_le (show 0 ≤ R3 by omega)
              rw [Int.toNat_natCast] at d6 d7 d9 d10 d11
              have RS : Hid (∀ W, SL W as1 n8 c8 sp → Calls Try.prog 48 #[.slice as1 n8 c8] W fun e w' => e = .returned (.int .i64 ((X3 + Y3) ^ r)) ∧ W = w') := Lib.hid (fun W h => by rw [← d6]; exact rSum_any W as1 n8 c8 sp h)
              have D2 := Lib.hid d2; have D7 := Lib.hid d7; have D8 := Lib.hid d8; have D9 := Lib.hid d9; have D10 := Lib.hid d10; have D11 := Lib.hid d11
              have hsl := o8.sl
              clear d2 d6 d7 d8 d9 d10 d11 P0 hl8
              go_wp2_with fail
              go_loop [41, 43] (fun x i => ∃ k : Nat, k ≤ r ∧ i = .int .i64 k ∧ x = .int .i64 ((X3 + Y3) ^ k)) (fun _ i => r - (intOf i).toNat)
              case atStart => exact ⟨0, Nat.zero_le _, rfl, by simp⟩
              case round =>
                obtain ⟨k, hk, rfl, rfl⟩ := hrel
                by_cases hlt : k < r
                · have b1 := D7.out k (by omega)
                  have b2 := D7.out (k + 1) (by omega)
                  have e1 : Hid ((X3 + Y3) ^ (k + 1) = (X3 + Y3) ^ k * (X3 + Y3)) := Lib.hid (Int.pow_succ _ _)
                  rw [e1.out] at b2
                  generalize (X3 + Y3) ^ k = z at *
                  have i1 : (k : Int) < (r : Int) := by omega
                  go_wp2
                  go_round
                  case rel => exact ⟨k + 1, by omega, by go_num, by rw [e1.out]⟩
                  case measure => simp [intOf]; omega
                · obtain rfl : k = r := by omega
                  have b1 := D7.out k (Nat.le_refl _)
                  have RS2 := RS
                  have D92 := D9; have D102 := D10; have D112 := D11
                  clear RS D7 D9 D10 D11
                  generalize (X3 + Y3) ^ k = pw at *
                  go_wp2_with fail
                  go_loop [42, 44] (fun x i => ∃ j : Nat, j ≤ n8 ∧ i = .int .i64 j ∧ x = .int .i64 (momTo sp j)) (fun _ i => n8 - (intOf i).toNat)
                  case atStart => exact ⟨0, Nat.zero_le _, rfl, rfl⟩
                  case round =>
                    obtain ⟨j, hj, rfl, rfl⟩ := hrel
                    by_cases hjt : j < n8
                    · obtain ⟨b3, o3, rfl, hc⟩ := hsl.cells.resolve_left (by omega)
                      replace hc := hc j hjt
                      have i1 : (0 : Int) ≤ (j : Int) := by omega
                      have i2 : (j : Int) < (n8 : Int) := by omega
                      have b4 := D2.out j
                      have b5 := D8.out j (by omega)
                      have b6 := mul_bd (show (0 : Int) ≤ (j : Int) ∧ (j : Int) ≤ 13 by omega) b4
                      have e2 : Hid (momTo sp j + (j : Int) * nth sp j = momTo sp (j + 1)) := Lib.hid (by rw [momTo, Int.mul_comm])
                      go_wp2
                      go_round
                      case rel => exact ⟨j + 1, by omega, by go_num, by rw [e2.out]⟩
                      case measure => simp [intOf]; omega
                    · obtain rfl : j = n8 := by omega
                      have b5 := D8.out j (Nat.le_refl _)
                      have b7 := mul_bd (show 0 ≤ C3 ∧ C3 ≤ 12 by omega) (show 0 ≤ pw ∧ pw ≤ 32768 by omega)
                      generalize momTo sp j = mo at *
                      go_wp2_with fail
                      refine (RS2.out _ hsl).mono ?_
                      rintro e w' ⟨rfl, rfl⟩
                      rcases Int.lt_trichotomy X3 Y3 with hxy | hxy | hxy
                      · have c1 := D112.out hxy
                        have c2 : ¬ X3 = Y3 := by omega
                        have c3 : ¬ Y3 < X3 := by omega
                        have c4 : ¬ C3 * pw < mo := by omega
                        have c5 : (X3 == Y3) = false := by rw [beq_eq_false_iff_ne]; exact c2
                        go_wp2_with fail; go_meet; exact Fr.refl _
                      · have c1 := D92.out hxy
                        subst hxy
                        have c3 : ¬ X3 < X3 := by omega
                        have c4 : (mo != C3 * pw) = false := by rw [c1]; simp
                        go_wp2_with fail; go_meet; exact Fr.refl _
                      · have c1 := D102.out hxy
                        have c2 : ¬ X3 = Y3 := by omega
                        have c3 : ¬ X3 < Y3 := by omega
                        have c4 : ¬ mo < C3 * pw := by omega
                        have c5 : (X3 == Y3) = false := by rw [beq_eq_false_iff_ne]; exact c2
                        go_wp2_with fail; go_meet; exact Fr.refl _
        case rest =>
          replace h3 := h3.fr hcut; replace o4 := o4.fr hcut; replace o6 := o6.fr hcut; replace F := F.trans hcut; clear hcut P0 o8
          obtain ⟨w60, rfl⟩ : ∃ wz : World, wz = wc := ⟨_, rfl⟩
          cases ok
          · go_wp2
            go_ret
            exact ⟨rfl, F⟩
          · obtain ⟨rfl, rfl⟩ := K0.out rfl
            obtain ⟨k1, k2, k3, k4⟩ := K1.out rfl
            obtain ⟨r, rfl⟩ := Int.eq_ofNat_of_zero_le k3
            rw [Int.toNat_natCast] at o4 o6
            obtain ⟨l1, l2, l3⟩ := luck_bd k2
            have R1 := Lib.hid (fun W h => impl_IsRising_any W p3 m3 c3 us h)
            have R3 := Lib.hid (fun W h => impl_IsConcave_any W p3 m3 c3 us h)
            rw [k1] at R1 R3
            have hl3 := h3.len
            have G1 : Hid (∀ k c, c < m3 → (X + Y) * nth (worthsTo us X Y k) c ≤ nth (worthsTo us X Y (k + 1)) c) := Lib.hid (fun k c hc => worth_grow k c (by omega))
            have G2 : Hid (risB us = true → conB us = true → X ≤ Y → ∀ k c, c < m3 → nth (planRow us X Y k) c = 0 ∧ nth (worthsTo us X Y (k + 1)) c = (X + Y) * nth (worthsTo us X Y k) c) := Lib.hid (fun h1 h2 h3 k c hc => flat_plan k1 k2 h3 h1 h2 k c (by omega))
            have G3 : Hid (∀ k c, k ≤ 5 → 0 ≤ nth (worthsTo us X Y k) c ∧ nth (worthsTo us X Y k) c ≤ 32735232) := Lib.hid (fun k c hk => by have h1 := worths_bd k1 l1 l2 k c; have h2 := pow8' k hk; omega)
            generalize risB us = ri at R1 G2
            generalize conB us = co at R3 G2
            clear K0 K1 k1 k2
            go_wp2_with fail
            refine (R1.out _ h3).mono ?_
            rintro e w61 ⟨rfl, f⟩
            replace h3 := h3.fr f
            replace o4 := o4.fr f
            replace o6 := o6.fr f
            replace F := F.trans f
            clear f
            clear R1
            go_wp2_with fail
            refine (R3.out _ h3).mono ?_
            rintro e w62 ⟨rfl, f⟩
            replace h3 := h3.fr f
            replace o4 := o4.fr f
            replace o6 := o6.fr f
            replace F := F.trans f
            clear f
            clear R3
            have S4 := o4.ss; have S6 := o6.ss
            have e4 : n4 = r + 1 := by rw [← o4.len, tabM_len]
            have e6 : n6 = r := by rw [← o6.len]; simp [planM]
            subst e4; subst e6
            have F9 := Lib.hid F
            have hr5 : n6 ≤ 5 := by omega
            clear o4 o6 F
            go_wp2_with fail
            go_loopw [49] (fun i wx => ∃ k : Nat, k ≤ n6 ∧ i = .int .i64 ((k : Int) + 1) ∧ Qt w62 wx) (fun i _ => n6 + 1 - (intOf i).toNat)
            case atStart => exact ⟨0, Nat.zero_le _, rfl, Qt.refl _⟩
            case round =>
              as_aux_lemma =>
                obtain ⟨k, hk, rfl, hq⟩ := hrel
                by_cases hlt : k < n6
                · have i0 : (k : Int) + 1 < (n6 : Int) + 1 := by omega
                  go_wp2_with fail
                  obtain ⟨wo, rfl⟩ : ∃ wo : World, wo = wr := ⟨_, rfl⟩
                  go_loopw [50] (fun i wx => ∃ c : Nat, c ≤ m3 ∧ i = .int .i64 c ∧ Qt wo wx) (fun i _ => m3 - (intOf i).toNat)
                  case atStart => exact ⟨0, Nat.zero_le _, rfl, Qt.refl _⟩
                  case round =>
                    as_aux_lemma =>
                      obtain ⟨c, hc, rfl, hq2⟩ := hrel
                      by_cases hct : c < m3
                      · have hqq := hq.trans hq2
                        obtain ⟨b4, o4, rfl, r4⟩ := (S4.qt hqq).rows.resolve_left (by omega)
                        obtain ⟨b6, o6, rfl, r6⟩ := (S6.qt hqq).rows.resolve_left (by omega)
                        obtain ⟨pa, ma, ca, ka, sa⟩ := r4 (k + 1) (by omega)
                        obtain ⟨pb, mb, cb, kb, sb⟩ := r4 k (by omega)
                        obtain ⟨pc, mc, cc, kc, sc⟩ := r6 k hlt
                        rw [tabM_at _ _ _ _ _ (by omega)] at sa sb
                        rw [show nthL (planM us X Y n6) k = planRow us X Y k by simp [nthL, planM, hlt]] at sc
                        have ea : ma = m3 := by rw [← sa.len, worthsTo_len, hl3]
                        have eb : mb = m3 := by rw [← sb.len, worthsTo_len, hl3]
                        have ec : mc = m3 := by rw [← sc.len, planRow_len, hl3]
                        subst ea; subst eb; subst ec
                        obtain ⟨ba, oa, rfl, ha⟩ := sa.cells.resolve_left (by omega)
                        obtain ⟨bb, ob, rfl, hb⟩ := sb.cells.resolve_left (by omega)
                        obtain ⟨bc, oc, rfl, hc3⟩ := sc.cells.resolve_left (by omega)
                        replace ha := ha c hct; replace hb := hb c hct; replace hc3 := hc3 c hct
                        have g1 := G1.out k c hct
                        have b1 := G3.out k c (by omega)
                        have b2 := G3.out (k + 1) c (by omega)
                        have G2' : Hid (ri = true → co = true → X ≤ Y → nth (planRow us X Y k) c = 0 ∧ nth (worthsTo us X Y (k + 1)) c = (X + Y) * nth (worthsTo us X Y k) c) := Lib.hid (fun x y z => G2.out x y z k c hct)
                        have b3 := mul_bd (show 0 ≤ X + Y ∧ X + Y ≤ 8 by omega) b1
                        have b8 := (sc.rngAt c)
                        clear r4 r6 sa sb sc
                        generalize nth (worthsTo us X Y (k + 1)) c = t1 at *
                        generalize nth (worthsTo us X Y k) c = t0 at *
                        generalize nth (planRow us X Y k) c = pl at *
                        have n1 : ¬ t1 < (X + Y) * t0 := by omega
                        have j0 : (0 : Int) ≤ (k : Int) := by omega
                        have j1 : (k : Int) < (n6 : Int) := by omega
                        have j2 : (0 : Int) ≤ (c : Int) := by omega
                        have j3 : (c : Int) < (mc : Int) := by omega
                        have j4 : (0 : Int) ≤ (k : Int) + 1 := by omega
                        have j5 : (k : Int) < (n6 : Int) + 1 := by omega
                        have e1 : IntKind.i64.wrap (X + Y) = X + Y := IntWalk.i64_in _ (by omega)
                        have e2 : IntKind.i64.wrap ((X + Y) * t0) = (X + Y) * t0 := IntWalk.i64_in _ (by omega)
                        have e3 : IntKind.i64.wrap ((k : Int) + 1 - 1) = (k : Int) := by rw [IntWalk.i64_in _ (by omega)]; omega
                        go_wp2
                        go_quiet (fail)
                        cases ri
                        · go_wp2
                          go_quiet (fail)
                          go_wp2
                          go_roundw
                          case rel => exact ⟨c + 1, by omega, by go_num, hq2.drewN _⟩
                          case measure => simp [intOf]; omega
                        · cases co
                          · go_wp2
                            go_quiet (fail)
                            go_wp2
                            go_roundw
                            case rel => exact ⟨c + 1, by omega, by go_num, hq2.drewN _⟩
                            case measure => simp [intOf]; omega
                          · by_cases hxy : X ≤ Y
                            · obtain ⟨rfl, rfl⟩ := G2'.out (by first | exact rfl | trivial) (by first | exact rfl | trivial) hxy
                              go_wp2
                              go_quiet (fail)
                              go_wp2
                              go_roundw
                              case rel => exact ⟨c + 1, by omega, by go_num, hq2.drewN _⟩
                              case measure => simp [intOf]; omega
                            · have dxy := decide_eq_false hxy
                              go_wp2
                              go_quiet (fail)
                              go_wp2
                              go_roundw
                              case rel => exact ⟨c + 1, by omega, by go_num, hq2.drewN _⟩
                              case measure => simp [intOf]; omega
                      · go_wp2
                        go_roundw
                        case rel => exact ⟨k + 1, by omega, by go_num, hq.trans hq2⟩
                        case measure => simp [intOf]; omega
                · go_wp2
                  go_ret
                  exact ⟨rfl, F9.out.trans hq.fr⟩
end Go.Proofs.Ytfdidelonilnmaa
