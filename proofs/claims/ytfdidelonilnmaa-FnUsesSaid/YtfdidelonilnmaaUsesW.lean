import Derived.Test.YtfdidelonilnmaaDrawU2
import Derived.Test.YtfdidelonilnmaaUsesM
import Derived.Test.YtfdidelonilnmaaCut
import Derived.Test.YtfdidelonilnmaaLawH
import Derived.Test.YtfdidelonilnmaaAboveW
import Derived.Deep.DeepCutAuto
import Derived.Deep.CutRange
/- The law FnUses. -/
set_option linter.unusedVariables false
namespace Go.Proofs.Ytfdidelonilnmaa
open Go.ChangeShapes Go.WideShapes Go.ChangeAt Go.RowKit
theorem sl_take {w : World} {a : Option Addr} {n cap k : Nat} {xs : List Int} (h : SL w a n cap xs) (hk : k ≤ n) : SL w a k cap (xs.take k) := by
  obtain ⟨h1, h2, h3, h4, h5, h6⟩ := h
  refine ⟨by simp; omega, by omega, h3, fun x hx => h4 x (List.mem_of_mem_take hx), fun e => by have := h5 e; omega, ?_⟩
  by_cases h0 : k = 0
  · exact .inl h0
  · obtain ⟨b, off, rfl, hc⟩ := h6.resolve_left (by omega)
    refine .inr ⟨b, off, rfl, fun i hi => ?_⟩
    rw [hc i (by omega)]
    simp [nth, hi]
set_option maxRecDepth 100000 in
set_option maxHeartbeats 4000000 in
theorem walk_FnUses (a : Option Addr) (n cap : Nat) (zs : List Int) (w : World) (h : SLB w a n cap zs) :
    Calls Try.prog 14 #[.slice a n cap] w fun e w' => e = .returned (.bool true) ∧ Fr w w' := by
  have hle := h.le; have hmx := h.mx
  have HV := Lib.hid (rBig_any w a n cap (by omega))
  by_cases hbig : 65536 < n
  · have hd : decide (65536 < n) = true := decide_eq_true hbig
    rw [hd] at HV
    go_enter Try.func14, Try.ntmps14
    go_wp2_with fail
    refine HV.out.mono ?_
    rintro e w' ⟨rfl, rfl⟩
    go_wp2
    go_ret
    exact ⟨rfl, Fr.refl _⟩
  · have hd : decide (65536 < n) = false := decide_eq_false hbig
    rw [hd] at HV
    have H := Lib.hid h
    have F := Fr.refl w
    clear h
    go_enter Try.func14, Try.ntmps14
    go_wp2_with fail
    refine HV.out.mono ?_
    rintro e w' ⟨rfl, rfl⟩
    clear HV hd
    -- a spread and a use
    go_wp2_with fail
    refine (DrawSureCoins_any w a n cap zs H.out).mono ?_
    rintro e w1 ⟨p3, m3, c3, p4, m4, c4, rfl, ⟨ps, us, h3, h4⟩, hm3, hm4, f⟩
    replace F := F.trans f
    clear f
    have Q1 := Lib.hid (fun W h k => impl_SureCoins_any W p3 m3 c3 ps p4 m4 c4 us h k)
    have Q2 := Lib.hid (fun W h k => spec_SureCoins_any W p3 m3 c3 ps p4 m4 c4 us h k)
    have Q3 := Lib.hid (fun W h k => impl_MeanUse_any W p3 m3 c3 ps p4 m4 c4 us h k)
    have Q4 := Lib.hid (fun W h k => spec_MeanUse_any W p3 m3 c3 ps p4 m4 c4 us h k)
    have K0 := Lib.hid (fun h : bothB ps us = true => sure_laws h)
    have K1 := Lib.hid (fun h : bothB ps us = true => bothB_iff.1 h)
    have K2 : Hid (bothB ps us = true → sureV ps us = (sureI ps us : Nat)) := Lib.hid fun h => by rw [sureV, h]; rfl
    have K3 : Hid (bothB ps us = true → meanV ps us = muTo ps us ps.length) := Lib.hid fun h => by rw [meanV, h]; rfl
    generalize sureV ps us = sv at Q1 Q2 K2
    generalize meanV ps us = mv at Q3 Q4 K3
    generalize bothB ps us = bo at Q1 Q2 Q3 Q4 K0 K1 K2 K3
    have R1 := Lib.hid (fun W h => impl_IsRising_any W p4 m4 c4 us h)
    have R2 := Lib.hid (fun W h => spec_IsRising_any W p4 m4 c4 us h)
    have R3 := Lib.hid (fun W h => impl_IsConcave_any W p4 m4 c4 us h)
    have R4 := Lib.hid (fun W h => spec_IsConcave_any W p4 m4 c4 us h)
    have R5 := Lib.hid (fun W h => impl_IsUse_any W p4 m4 c4 us h)
    have T1 : Hid (useB us = true → ∀ k, 1 ≤ k → k ≤ us.length → useB (us.take k) = true) := Lib.hid fun h k => use_take h
    generalize hub : useB us = ub at R1 R2 R3 R4 R5 T1
    have UB := Lib.hid hub
    generalize hri : risB us = ri at R1 R2 K0
    generalize hco : conB us = co at R3 R4 K0
    clear hub hri hco
    go_wp2_with fail
    refine (Q1.out _ h3 h4).mono ?_
    rintro e w2 ⟨rfl, f⟩
    replace h3 := h3.fr f
    replace h4 := h4.fr f
    replace F := F.trans f
    clear f
    clear Q1
    go_wp2_with fail
    refine (Q2.out _ h3 h4).mono ?_
    rintro e w3 ⟨rfl, f⟩
    replace h3 := h3.fr f
    replace h4 := h4.fr f
    replace F := F.trans f
    clear f
    clear Q2
    go_wp2_with fail
    refine (Q3.out _ h3 h4).mono ?_
    rintro e w4 ⟨rfl, f⟩
    replace h3 := h3.fr f
    replace h4 := h4.fr f
    replace F := F.trans f
    clear f
    clear Q3
    go_wp2_with fail
    refine (Q4.out _ h3 h4).mono ?_
    rintro e w5 ⟨rfl, f⟩
    replace h3 := h3.fr f
    replace h4 := h4.fr f
    replace F := F.trans f
    clear f
    clear Q4
    go_wp2_with fail
    refine (R1.out _ h4).mono ?_
    rintro e w6 ⟨rfl, f⟩
    replace h3 := h3.fr f
    replace h4 := h4.fr f
    replace F := F.trans f
    clear f
    clear R1
    go_wp2_with fail
    refine (R2.out _ h4).mono ?_
    rintro e w7 ⟨rfl, f⟩
    replace h3 := h3.fr f
    replace h4 := h4.fr f
    replace F := F.trans f
    clear f
    clear R2
    go_wp2_with fail
    refine (R5.out _ h4).mono ?_
    rintro e w' ⟨rfl, rfl⟩
    clear R5
    go_wp2_with fail
    refine (R3.out _ h4).mono ?_
    rintro e w8 ⟨rfl, f⟩
    replace h3 := h3.fr f
    replace h4 := h4.fr f
    replace F := F.trans f
    clear f
    clear R3
    go_wp2_with fail
    refine (R4.out _ h4).mono ?_
    rintro e w9 ⟨rfl, f⟩
    replace h3 := h3.fr f
    replace h4 := h4.fr f
    replace F := F.trans f
    clear f
    clear R4
    go_upto_if 143 with fail
    go_cut [] from 144 to 195 (fun wx => Fr w9 wx)
    case first =>
      cases bo
      · go_wp2_with fail; go_meet; exact Fr.refl _
      · obtain ⟨s1, s2, s3⟩ := K1.out rfl
        obtain ⟨I, S, rfl, e2, k1, k2, k3, k4⟩ : ∃ (I : Nat) (S : Int), sv = (I : Int) ∧ S = wsum ps ∧ I < us.length ∧ mv ≤ nth us I * S ∧ (∀ k, k < I → nth us k * S < mv) ∧ (ri = true → co = true → (I : Int) * S < momTo ps ps.length + S) := by
          obtain ⟨k1, k2, k3, k4⟩ := K0.out rfl
          refine ⟨sureI ps us, wsum ps, K2.out rfl, rfl, k1, ?_, ?_, k4⟩
          · rw [K3.out rfl]; exact k2
          · rw [K3.out rfl]; exact k3
        have hub : ub = true := by rw [← UB.out, s2]
        subst hub
        have hl3 := h3.len; have hl4 := h4.len
        have hI : I < m4 := by omega
        have HP := Lib.hid (fun i => spreadB_nth s1 i)
        have HU := Lib.hid (fun i => useB_nth s2 i)
        have HPR : Hid (∀ i, 0 ≤ nth us i * S ∧ nth us i * S ≤ 39960) := Lib.hid (fun i => by rw [e2]; exact sure_prod s1 s2 i)
        have HS : 1 ≤ S ∧ S ≤ 40 := by rw [e2]; exact (spreadB_iffM.1 s1).2.2.2
        have hn8 : m3 ≤ 8 := by have := (spreadB_iffM.1 s1).2.1; omega
        have hmu : 0 ≤ mv ∧ mv ≤ 39960 * 8 := by rw [K3.out rfl]; have := muTo_bd s1 s2 ps.length; omega
        have hn1 := (spreadB_iffM.1 s1).1
        have RS : Hid (∀ W, SL W p3 m3 c3 ps → Calls Try.prog 48 #[.slice p3 m3 c3] W fun e w' => e = .returned (.int .i64 S) ∧ W = w') := Lib.hid (fun W h => by rw [e2]; exact rSum_any W p3 m3 c3 ps h)
        rw [hl3] at k4
        have K4 := Lib.hid k4
        have K5 := Lib.hid k3
        clear k4 k3 s1 s2 s3 K1 K2 K3 K0 e2
        go_wp2_with fail
        refine (RS.out _ h3).mono ?_
        rintro e w' ⟨rfl, rfl⟩
        go_wp2
        go_loop [22, 23] (fun x i => ∃ k : Nat, k ≤ m3 ∧ i = .int .i64 k ∧ x = .int .i64 (momTo ps k)) (fun _ i => m3 - (intOf i).toNat)
        case atStart => exact ⟨0, Nat.zero_le _, rfl, rfl⟩
        case round =>
          obtain ⟨k, hk, rfl, rfl⟩ := hrel
          by_cases hlt : k < m3
          · obtain ⟨b1, o1, rfl, hc⟩ := h3.cells.resolve_left (by omega)
            replace hc := hc k hlt
            have i1 : (0 : Int) ≤ (k : Int) := by omega
            have i2 : (k : Int) < (m3 : Int) := by omega
            have b2 := momTo_bd (M := 40) (by omega) HP.out k (by omega)
            have b3 := mul_bd (HP.out k) (show (0 : Int) ≤ (k : Int) ∧ (k : Int) ≤ 8 by omega)
            go_wp2
            go_round
            case rel => exact ⟨k + 1, by omega, by go_num, rfl⟩
            case measure => simp [intOf]; omega
          · obtain rfl : k = m3 := by omega
            obtain ⟨b1, o1, rfl, hc⟩ := h4.cells.resolve_left (by omega)
            have hcI := hc I hI
            have HC := Lib.hid hc
            clear hc
            have i1 : (0 : Int) ≤ (I : Int) := by omega
            have i2 : (I : Int) < (m4 : Int) := by omega
            have b1 := HPR.out I
            have b2 := momTo_bd (M := 40) (by omega) HP.out k (by omega)
            have b3 := mul_bd (show (0 : Int) ≤ (I : Int) ∧ (I : Int) ≤ 20 by omega) (show 0 ≤ S ∧ S ≤ 40 by omega)
            have n1 : ¬ nth us I * S < mv := by omega
            go_upto_region 26 with fail
            obtain ⟨W0, HW0⟩ : ∃ W, W = w9 := ⟨_, rfl⟩
            go_cut [182] from 160 to 182 (fun s wx => s = .bool false ∧ wx = w9)
            case first =>
              cases ri <;> cases co
              all_goals
                try (have n2 := K4.out rfl rfl; have n3 : ¬ momTo ps k + S ≤ (I : Int) * S := by omega)
                go_wp2_with fail; go_meet; exact ⟨rfl, rfl⟩
            case rest =>
              obtain ⟨rfl, rfl⟩ := hcut
              clear hcI
              go_wp2_with fail
              go_loop [24] (fun i => ∃ j : Nat, j ≤ I ∧ i = .int .i64 j) (fun i => I - (intOf i).toNat)
              case atStart => exact ⟨0, Nat.zero_le _, rfl⟩
              case round =>
                obtain ⟨j, hj, rfl⟩ := hrel
                by_cases hjt : j < I
                · have hcj := HC.out j (by omega)
                  have i3 : (0 : Int) ≤ (j : Int) := by omega
                  have i4 : (j : Int) < (m4 : Int) := by omega
                  have b4 := HPR.out j
                  have n2 := K5.out j hjt
                  have n3 : ¬ mv ≤ nth us j * S := by omega
                  have i5 : (j : Int) < (I : Int) := by omega
                  go_wp2
                  go_round
                  case rel => exact ⟨j + 1, by omega, by go_num⟩
                  case measure => simp [intOf]; omega
                · go_wp2_with fail; go_meet; exact Fr.refl _
    case rest =>
      replace h3 := h3.fr hcut; replace h4 := h4.fr hcut; replace F := F.trans hcut; clear hcut K0 K1 K2 K3 h3
      obtain ⟨w20, rfl⟩ : ∃ wz : World, wz = wc := ⟨_, rfl⟩
      go_wp2_with fail
      refine (DrawIsAbove_any _ a n cap zs (H.out.fr F)).mono ?_
      rintro e w21 ⟨pa, ma, ca, pb, mb, cb, rfl, ⟨aL, bL, ha, hb⟩, hma, hmb, f⟩
      replace h4 := h4.fr f
      replace F := F.trans f
      clear f
      have Q1 := Lib.hid (fun W h k => impl_IsAbove_any W pa pb ma ca mb cb aL bL h k)
      have Q2 := Lib.hid (fun W h k => impl_IsWider_any W pa pb ma ca mb cb aL bL h k)
      have Q3 := Lib.hid (fun W h k => spec_IsAbove_any W pa pb ma ca mb cb aL bL h k)
      have Q4 := Lib.hid (fun W h k => spec_IsWider_any W pa pb ma ca mb cb aL bL h k)
      have K1 := Lib.hid (fun (h : aboV aL bL = true) (u : List Int) => mean_above (u := u) h)
      have K2 := Lib.hid (fun (h : wideV aL bL = true) (u : List Int) => mean_wider (u := u) h)
      have K3 := Lib.hid (fun h : alikeB aL bL = true => alike_sums h)
      generalize aboV aL bL = ab at Q1 Q3 K1
      generalize wideV aL bL = wi at Q2 Q4 K2
      generalize alikeB aL bL = al at Q1 Q2 Q3 Q4 K3
      go_wp2_with fail
      refine (Q1.out _ ha hb).mono ?_
      rintro e w22 ⟨rfl, f⟩
      replace h4 := h4.fr f
      replace ha := ha.fr f
      replace hb := hb.fr f
      replace F := F.trans f
      clear f
      clear Q1
      go_wp2_with fail
      refine (Q2.out _ ha hb).mono ?_
      rintro e w23 ⟨rfl, f⟩
      replace h4 := h4.fr f
      replace ha := ha.fr f
      replace hb := hb.fr f
      replace F := F.trans f
      clear f
      clear Q2
      go_wp2_with fail
      refine (Q3.out _ ha hb).mono ?_
      rintro e w24 ⟨rfl, f⟩
      replace h4 := h4.fr f
      replace ha := ha.fr f
      replace hb := hb.fr f
      replace F := F.trans f
      clear f
      clear Q3
      go_wp2_with fail
      refine (Q4.out _ ha hb).mono ?_
      rintro e w25 ⟨rfl, f⟩
      replace h4 := h4.fr f
      replace ha := ha.fr f
      replace hb := hb.fr f
      replace F := F.trans f
      clear f
      clear Q4
      go_upto_region 42 with fail
      go_cut [258] from 246 to 258 (fun s wx => ∃ z, s = .bool z ∧ Hid (z = false → al = true ∧ ub = true ∧ ma ≤ m4) ∧ wx = w25)
      case first =>
        cases al
        · go_wp2_with fail; go_meet; exact ⟨true, rfl, Lib.hid (fun h => by cases h), rfl⟩
        · cases ub
          · go_wp2_with fail; go_meet; exact ⟨true, rfl, Lib.hid (fun h => by cases h), rfl⟩
          · go_wp2_with fail; go_meet
            exact ⟨_, rfl, Lib.hid (fun h => by refine ⟨by first | exact rfl | trivial, by first | exact rfl | trivial, ?_⟩; have := of_decide_eq_false h; omega), rfl⟩
      case rest =>
        obtain ⟨z, rfl, hz, rfl⟩ := hcut
        cases z
        rotate_left
        · go_wp2
          go_ret
          exact ⟨rfl, F⟩
        · obtain ⟨rfl, rfl, hlm⟩ := hz.out rfl
          obtain ⟨s1, s2, s3, s4⟩ := K3.out rfl
          have hla := ha.len; have hlb := hb.len; have hl4 := h4.len
          have hma1 : 1 ≤ ma := by have := (spreadB_iffM.1 s1).1; omega
          obtain rfl : mb = ma := by omega
          have ht := T1.out rfl mb hma1 (by omega)
          have htl : (us.take mb).length = mb := by simp; omega
          have hst : ∀ {W : World}, SL W p4 m4 c4 us → SL W p4 mb c4 (us.take mb) := fun h => sl_take h hlm
          have E1 := both_of s1 ht (by omega)
          have E2 := both_of s2 ht (by omega)
          have Q1 := Lib.hid (fun W h k => impl_MeanUse_any W pa mb ca aL p4 mb c4 (us.take mb) h k)
          have Q2 := Lib.hid (fun W h k => impl_MeanUse_any W pb mb cb bL p4 mb c4 (us.take mb) h k)
          have Q3 := Lib.hid (fun W h => impl_IsRising_any W p4 mb c4 (us.take mb) h)
          have Q4 := Lib.hid (fun W h => impl_IsConcave_any W p4 mb c4 (us.take mb) h)
          have G1 : Hid (ab = true → risB (us.take mb) = true → meanV bL (us.take mb) ≤ meanV aL (us.take mb)) := Lib.hid (fun h1 h2 => K1.out h1 _ ht (by omega) h2)
          have G2 : Hid (wi = true → conB (us.take mb) = true → meanV aL (us.take mb) ≤ meanV bL (us.take mb)) := Lib.hid (fun h1 h2 => K2.out h1 _ ht (by omega) h2)
          rw [E1] at Q1
          rw [E2] at Q2
          rw [ht] at Q3 Q4
          generalize meanV aL (us.take mb) = x at Q1 G1 G2
          generalize meanV bL (us.take mb) = y at Q2 G1 G2
          generalize risB (us.take mb) = ri2 at Q3 G1
          generalize conB (us.take mb) = co2 at Q4 G2
          have hcap := h4.le
          have i1 : (mb : Int) ≤ (c4 : Int) := by omega
          have i2 : (0 : Int) ≤ (mb : Int) := by omega
          have i3 : ¬ (m4 : Int) < (mb : Int) := by omega
          clear K1 K2 K3 s1 s2 s3 s4 T1 hz UB hla hlb hl4 E1 E2 htl
          go_wp2_with fail
          refine (Q1.out _ ha (hst h4)).mono ?_
          rintro e w26 ⟨rfl, f⟩
          replace h4 := h4.fr f
          replace ha := ha.fr f
          replace hb := hb.fr f
          replace F := F.trans f
          clear f
          clear Q1
          go_wp2_with fail
          refine (Q2.out _ hb (hst h4)).mono ?_
          rintro e w27 ⟨rfl, f⟩
          replace h4 := h4.fr f
          replace ha := ha.fr f
          replace hb := hb.fr f
          replace F := F.trans f
          clear f
          clear Q2
          go_wp2_with fail
          refine (Q3.out _ (hst h4)).mono ?_
          rintro e w28 ⟨rfl, f⟩
          replace h4 := h4.fr f
          replace ha := ha.fr f
          replace hb := hb.fr f
          replace F := F.trans f
          clear f
          clear Q3
          go_wp2_with fail
          refine (Q4.out _ (hst h4)).mono ?_
          rintro e w29 ⟨rfl, f⟩
          replace h4 := h4.fr f
          replace ha := ha.fr f
          replace hb := hb.fr f
          replace F := F.trans f
          clear f
          clear Q4
          have FF := Lib.hid F
          clear F ha hb h4 hst
          cases ab <;> cases ri2 <;> cases wi <;> cases co2
          all_goals
            try (have g1 := G1.out rfl rfl)
            try (have g2 := G2.out rfl rfl)
            go_wp2
            go_ret
            exact ⟨by simp; try omega, FF.out⟩
end Go.Proofs.Ytfdidelonilnmaa
