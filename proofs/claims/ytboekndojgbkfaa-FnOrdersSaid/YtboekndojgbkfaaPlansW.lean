import Derived.Test.YtboekndojgbkfaaDrawP2
import Derived.Test.YtboekndojgbkfaaOrdersM
import Derived.Test.YtboekndojgbkfaaCut
import Derived.Test.YtboekndojgbkfaaTabH
import Derived.Test.YtboekndojgbkfaaMixW
import Derived.Deep.DeepCutAuto
import Derived.Deep.CutRange
/- The law FnPlans. -/
set_option linter.unusedVariables false
namespace Go.Proofs.Ytboekndojgbkfaa
open Go.ChangeShapes Go.WideShapes Go.ChangeAt Go.RowKit
set_option maxRecDepth 100000 in
theorem DrawIsPlan_any (w : World) (a : Option Addr) (n cap : Nat) (zs : List Int) (h : SLB w a n cap zs) :
    Calls Try.prog 96 #[.slice a n cap] w fun e w' => ∃ (p : Option Addr) (m c : Nat) (q : Option Addr) (k d : Nat) (t : Option Addr) (r s : Nat), e = .returned (.tuple #[.slice p m c, .slice q k d, .slice t r s]) ∧ (∃ xs ys T, SL w' p m c xs ∧ SL w' q k d ys ∧ SS w' t r s T) ∧ (m ≤ 9 ∧ k ≤ 9 ∧ r ≤ 9) ∧ Fr w w' := by
  have D0 := Dr.start h
  have HE : Hid (∀ (A : Nat) (w' : World), Dr w.heap.size A (w.alloc (.cells #[.slice a n cap, .int .i64 0, .int .u64 0] 73)) w' → Fr w w') := Lib.hid fun A w' h => h.ends rfl
  clear h
  go_enter Try.func96, Try.ntmps96
  go_wp2_with fail
  refine (planned_dr _ D0 (by omega)).mono ?_
  rintro e w1 ⟨p, m, c, q, k, d, t, r, s, rfl, hx, hm, D1⟩
  go_wp2
  refine bodyPost_ret (v := .tuple #[.slice p m c, .slice q k d, .slice t r s]) (by simp [results, Try.results96, go_sem]) rfl ?_
  exact ⟨_, _, _, _, _, _, _, _, _, rfl, hx, hm, HE.out _ _ D1⟩
theorem DrawKeptUnits_any (w : World) (a : Option Addr) (n cap : Nat) (zs : List Int) (h : SLB w a n cap zs) :
    Calls Try.prog 45 #[.slice a n cap] w fun e w' => ∃ (p : Option Addr) (m c : Nat) (q : Option Addr) (k d : Nat) (t : Option Addr) (r s : Nat), e = .returned (.tuple #[.slice p m c, .slice q k d, .slice t r s]) ∧ (∃ xs ys T, SL w' p m c xs ∧ SL w' q k d ys ∧ SS w' t r s T) ∧ (m ≤ 9 ∧ k ≤ 9 ∧ r ≤ 9) ∧ Fr w w' := by
  go_enter Try.func45, Try.ntmps45
  go_wp2_with fail
  refine (DrawIsPlan_any w a n cap zs h).mono ?_
  rintro e w1 ⟨p, m, c, q, k, d, t, r, s, rfl, hx, hm, f⟩
  go_wp2
  refine bodyPost_ret (v := .tuple #[.slice p m c, .slice q k d, .slice t r s]) (by simp [results, Try.results45, go_sem]) rfl ?_
  exact ⟨_, _, _, _, _, _, _, _, _, rfl, hx, hm, f⟩
theorem DrawIsUpward_any (w : World) (a : Option Addr) (n cap : Nat) (zs : List Int) (h : SLB w a n cap zs) :
    Calls Try.prog 63 #[.slice a n cap] w fun e w' => ∃ (p : Option Addr) (m c : Nat) (q : Option Addr) (k d : Nat) (t : Option Addr) (r s : Nat), e = .returned (.tuple #[.slice p m c, .slice q k d, .slice t r s]) ∧ (∃ xs ys T, SL w' p m c xs ∧ SL w' q k d ys ∧ SS w' t r s T) ∧ (m ≤ 9 ∧ k ≤ 9 ∧ r ≤ 9) ∧ Fr w w' := by
  go_enter Try.func63, Try.ntmps63
  go_wp2_with fail
  refine (DrawIsPlan_any w a n cap zs h).mono ?_
  rintro e w1 ⟨p, m, c, q, k, d, t, r, s, rfl, hx, hm, f⟩
  go_wp2
  refine bodyPost_ret (v := .tuple #[.slice p m c, .slice q k d, .slice t r s]) (by simp [results, Try.results63, go_sem]) rfl ?_
  exact ⟨_, _, _, _, _, _, _, _, _, rfl, hx, hm, f⟩
theorem okB_alike {p q : List Int} {T : List (List Int)} (h : okB p q T = true) : alikeB p q = true := by rw [okB, Bool.and_eq_true] at h; exact h.1
theorem dist_bds {p q : List Int} (h : alikeB p q = true) : (0 ≤ distV p q ∧ distV p q ≤ 320) ∧ (1 ≤ wsum p ∧ wsum p ≤ 40) := by
  obtain ⟨s1, s2, s3, s4⟩ := alikeB_iff.1 h
  obtain ⟨⟨l1, l2⟩, _, l3⟩ := spreadB_iff.1 s1
  have := dist_bd (spread_nth s1) (spread_nth s2) p.length
  refine ⟨?_, l3⟩
  rw [distV, h]
  show 0 ≤ distTo p q p.length ∧ distTo p q p.length ≤ 320
  omega
theorem mix_bds {p q : List Int} (h : mixB p q = true) : alikeB p q = true ∧ wsum (mixV p q) = 2 * wsum p := by
  refine ⟨by rw [mixB, Bool.and_eq_true] at h; exact h.1, mix_sum h⟩
theorem spreads_of {p q : List Int} (h : alikeB p q = true) : (spreadB p && spreadB q) = true := by
  obtain ⟨s1, s2, _⟩ := alikeB_iff.1 h; rw [s1, s2]; rfl
set_option maxRecDepth 100000 in
set_option maxHeartbeats 4000000 in
theorem walk_FnPlans (a : Option Addr) (n cap : Nat) (zs : List Int) (w : World) (h : SLB w a n cap zs) :
    Calls Try.prog 13 #[.slice a n cap] w fun e w' => e = .returned (.bool true) ∧ Fr w w' := by
  have hle := h.le; have hmx := h.mx
  have HV := Lib.hid (rBig_any w a n cap (by omega))
  by_cases hbig : 65536 < n
  · have hd : decide (65536 < n) = true := decide_eq_true hbig
    rw [hd] at HV
    go_enter Try.func13, Try.ntmps13
    go_wp2_with fail
    refine HV.out.mono ?_
    rintro e w' ⟨rfl, rfl⟩
    go_wp2
    go_ret
    exact ⟨rfl, Fr.refl _⟩
  · have hd : decide (65536 < n) = false := decide_eq_false hbig
    rw [hd] at HV
    have H := Lib.hid h
    have F := Fr.refl w
    clear h
    go_enter Try.func13, Try.ntmps13
    go_wp2_with fail
    refine HV.out.mono ?_
    rintro e w' ⟨rfl, rfl⟩
    clear HV hd
    go_wp2_with fail
    refine (DrawKeptUnits_any w a n cap zs H.out).mono ?_
    rintro e w1 ⟨p3, m3, c3, p4, m4, c4, t5, n5, c5, rfl, ⟨ps, qs, T, h3, h4, h5⟩, hm, f⟩
    replace F := F.trans f
    clear f
    have Q1 := Lib.hid (fun W h k l => impl_KeptUnits_any W p3 p4 t5 m3 c3 m4 c4 n5 c5 ps qs T h k l)
    have Q2 := Lib.hid (fun W h k l => spec_KeptUnits_any W p3 p4 t5 m3 c3 m4 c4 n5 c5 ps qs T h k l)
    have Q3 := Lib.hid (fun W h k l => impl_IsPlan_any W p3 p4 t5 m3 c3 m4 c4 n5 c5 ps qs T h k l)
    have Q4 := Lib.hid (fun W h k l => spec_IsPlan_any W p3 p4 t5 m3 c3 m4 c4 n5 c5 ps qs T h k l)
    have Q5 := Lib.hid (fun W h k => impl_DistanceOf_any W p3 p4 m3 c3 m4 c4 ps qs h k)
    have K1 := Lib.hid (fun h : okB ps qs T = true => okB_alike h)
    have K2 := Lib.hid (fun h : okB ps qs T = true => kept_most h)
    have K3 := Lib.hid (fun h : alikeB ps qs = true => dist_bds h)
    generalize keptV ps qs T = kv at Q1 Q2 K2
    generalize okB ps qs T = ok at Q1 Q2 Q3 Q4 K1 K2
    generalize distV ps qs = dv at Q5 K2 K3
    generalize alikeB ps qs = al at Q3 Q4 Q5 K1 K3
    go_wp2_with fail
    refine (Q1.out _ h3 h4 h5).mono ?_
    rintro e w2 ⟨rfl, f⟩
    replace h3 := h3.fr f
    replace h4 := h4.fr f
    replace h5 := h5.fr f
    replace F := F.trans f
    clear f
    clear Q1
    go_wp2_with fail
    refine (Q2.out _ h3 h4 h5).mono ?_
    rintro e w3 ⟨rfl, f⟩
    replace h3 := h3.fr f
    replace h4 := h4.fr f
    replace h5 := h5.fr f
    replace F := F.trans f
    clear f
    clear Q2
    go_wp2_with fail
    refine (Q3.out _ h3 h4 h5).mono ?_
    rintro e w4 ⟨rfl, f⟩
    replace h3 := h3.fr f
    replace h4 := h4.fr f
    replace h5 := h5.fr f
    replace F := F.trans f
    clear f
    clear Q3
    go_wp2_with fail
    refine (Q4.out _ h3 h4 h5).mono ?_
    rintro e w5 ⟨rfl, f⟩
    replace h3 := h3.fr f
    replace h4 := h4.fr f
    replace h5 := h5.fr f
    replace F := F.trans f
    clear f
    clear Q4
    go_upto_region 10 with fail
    go_cut [99] from 84 to 99 (fun s wx => s = .bool false ∧ wx = w5)
    case first =>
      as_aux_lemma =>
        cases ok <;> cases al
        all_goals first
          | (exfalso; have := K1.out rfl; cases this; done)
          | (go_wp2_with fail; go_meet; exact ⟨rfl, rfl⟩)
    case rest =>
      obtain ⟨rfl, rfl⟩ := hcut
      obtain ⟨w20, rfl⟩ : ∃ wz : World, wz = wc := ⟨_, rfl⟩
      clear h5
      go_wp2_with fail
      refine (DrawKeepingPlan_any _ a n cap zs (H.out.fr F)).mono ?_
      rintro e w21 ⟨pa, ma, ca, pb, mb, cb, rfl, ⟨aL, bL, ha, hb⟩, hma, hmb, f⟩
      replace h3 := h3.fr f
      replace h4 := h4.fr f
      replace F := F.trans f
      clear f
      have Q1 := Lib.hid (fun W h k => impl_KeepingPlan_any W pa pb ma ca mb cb aL bL h k)
      have Q2 := Lib.hid (fun W h k => spec_KeepingPlan_any W pa pb ma ca mb cb aL bL h k)
      have Q3 := Lib.hid (fun W h k => impl_DistanceOf_any W pa pb ma ca mb cb aL bL h k)
      have Q4 := Lib.hid (fun W h k => spec_DistanceOf_any W pa pb ma ca mb cb aL bL h k)
      have R1 := Lib.hid (fun W h k => impl_AreAlike_any W pa pb ma ca mb cb aL bL h k)
      have R2 := Lib.hid (fun W h k => spec_AreAlike_any W pa pb ma ca mb cb aL bL h k)
      have R3 := Lib.hid (fun W h => impl_IsSpread_any W pa ma ca aL h)
      have R4 := Lib.hid (fun W h => spec_IsSpread_any W pa ma ca aL h)
      have R5 := Lib.hid (fun W h k => impl_MixSpreads_any W pa pb ma ca mb cb aL bL h k)
      have R6 := Lib.hid (fun W h k => spec_MixSpreads_any W pa pb ma ca mb cb aL bL h k)
      have R7 := Lib.hid (fun W t r s h k l => impl_KeptUnits_any W pa pb t ma ca mb cb r s aL bL (keepingV aL bL) h k l)
      have R8 := Lib.hid (fun W h k => impl_DistanceOf_any W pb pa mb cb ma ca bL aL h k)
      have R9 := Lib.hid (fun W h k => impl_EarthDistance_any W pa pb ma ca mb cb aL bL h k)
      have G1 : Hid (alikeB aL bL = true → (spreadB aL && spreadB bL) = true) := Lib.hid spreads_of
      have G2 := Lib.hid (fun h : mixB aL bL = true => mix_bds h)
      have G3 := Lib.hid (fun h : alikeB aL bL = true => dist_bds h)
      have G4 := Lib.hid (fun h : alikeB aL bL = true => dist_laws h)
      have G5 : Hid (alikeB aL bL = true → okB aL bL (keepingV aL bL) = true ∧ alikeB bL aL = true) := Lib.hid fun h => ⟨by rw [show keepingV aL bL = keepingM aL bL by rw [keepingV, h]; rfl]; exact okB_keeping h, alikeB_symm h⟩
      generalize keptV aL bL (keepingV aL bL) = kp at R7 G4
      generalize okB aL bL (keepingV aL bL) = okk at R7 G5
      generalize keepingV aL bL = KV at Q1 Q2 R7
      generalize distV bL aL = db at R8 G4
      generalize alikeB bL aL = ab2 at R8 G5
      generalize earV aL bL = ea at R9 G4
      generalize distV aL bL = da at Q3 Q4 G3 G4
      generalize mixB aL bL = mx at R5 R6 G2
      generalize alikeB aL bL = ab at Q1 Q2 Q3 Q4 R1 R2 R9 G1 G2 G3 G4 G5
      generalize (spreadB aL && spreadB bL) = sp at R1 R2 G1
      generalize spreadB aL = sa at R3 R4
      generalize mixV aL bL = MV at R5 R6 G2
      have RS : Hid (∀ W, SL W pa ma ca aL → Calls Try.prog 57 #[.slice pa ma ca] W fun e w' => e = .returned (.int .i64 (wsum aL)) ∧ W = w') := Lib.hid (fun W h => rSum_any W pa ma ca aL h)
      generalize wsum aL = S at RS G2 G3 G4
      go_wp2_with fail
      refine (Q1.out _ ha hb).mono ?_
      rintro e w22 ⟨t6, n6, c6, rfl, o6, f, -⟩
      replace h3 := h3.fr f
      replace h4 := h4.fr f
      replace ha := ha.fr f
      replace hb := hb.fr f
      replace F := F.trans f
      clear f
      clear Q1
      go_wp2_with fail
      refine (Q2.out _ ha hb).mono ?_
      rintro e w23 ⟨t7, n7, c7, rfl, o7, f, -⟩
      replace h3 := h3.fr f
      replace h4 := h4.fr f
      replace ha := ha.fr f
      replace hb := hb.fr f
      replace o6 := o6.fr f
      replace F := F.trans f
      clear f
      clear Q2
      go_wp2_with fail
      refine (rTable_any _ _ _ _ _ _ _ _ _ o6.ss o7.ss).mono ?_
      rintro e w24 ⟨rfl, f⟩
      replace h3 := h3.fr f
      replace h4 := h4.fr f
      replace ha := ha.fr f
      replace hb := hb.fr f
      replace o6 := o6.fr f
      replace o7 := o7.fr f
      replace F := F.trans f
      clear f
      rw [decide_eq_true rfl]
      clear o7
      go_wp2_with fail
      refine (Q3.out _ ha hb).mono ?_
      rintro e w25 ⟨rfl, f⟩
      replace h3 := h3.fr f
      replace h4 := h4.fr f
      replace ha := ha.fr f
      replace hb := hb.fr f
      replace o6 := o6.fr f
      replace F := F.trans f
      clear f
      clear Q3
      go_wp2_with fail
      refine (Q4.out _ ha hb).mono ?_
      rintro e w26 ⟨rfl, f⟩
      replace h3 := h3.fr f
      replace h4 := h4.fr f
      replace ha := ha.fr f
      replace hb := hb.fr f
      replace o6 := o6.fr f
      replace F := F.trans f
      clear f
      clear Q4
      go_wp2_with fail
      refine (R1.out _ ha hb).mono ?_
      rintro e w' ⟨rfl, rfl⟩
      clear R1
      go_wp2_with fail
      refine (R2.out _ ha hb).mono ?_
      rintro e w' ⟨rfl, rfl⟩
      clear R2
      go_upto_region 23 with fail
      go_cut [185] from 163 to 185 (fun s wx => s = .bool false ∧ wx = w26)
      case first =>
        as_aux_lemma =>
          cases ab <;> cases sp
          all_goals first
            | (exfalso; have := G1.out rfl; cases this; done)
            | (go_wp2_with fail
               refine (R3.out _ ha).mono ?_
               rintro e w' ⟨rfl, rfl⟩
               go_wp2_with fail
               refine (R4.out _ ha).mono ?_
               rintro e w' ⟨rfl, rfl⟩
               go_wp2_with fail; go_meet; exact ⟨rfl, rfl⟩)
      case rest =>
        obtain ⟨rfl, rfl⟩ := hcut
        obtain ⟨w40, rfl⟩ : ∃ wz : World, wz = wc := ⟨_, rfl⟩
        clear R3 R4 G1
        go_wp2_with fail
        refine (R5.out _ ha hb).mono ?_
        rintro e w41 ⟨t8, n8, c8, rfl, o8, f, -⟩
        replace h3 := h3.fr f
        replace h4 := h4.fr f
        replace ha := ha.fr f
        replace hb := hb.fr f
        replace o6 := o6.fr f
        replace F := F.trans f
        clear f
        clear R5
        go_wp2_with fail
        refine (R6.out _ ha hb).mono ?_
        rintro e w42 ⟨t9, n9, c9, rfl, o9, f, -⟩
        replace h3 := h3.fr f
        replace h4 := h4.fr f
        replace ha := ha.fr f
        replace hb := hb.fr f
        replace o6 := o6.fr f
        replace o8 := o8.fr f
        replace F := F.trans f
        clear f
        clear R6
        go_upto_region 27 with fail
        go_cut [213] from 198 to 213 (fun s wx => s = .bool false ∧ Fr w42 wx)
        case first =>
          as_aux_lemma =>
            cases mx
            · go_wp2_with fail
              refine (rInts_any _ _ _ _ _ _ _ _ _ o8.sl o9.sl).mono ?_
              rintro e w50 ⟨rfl, f⟩
              rw [decide_eq_true rfl]
              go_wp2_with fail; go_meet; exact ⟨rfl, f⟩
            · obtain ⟨rfl, hms⟩ := G2.out rfl
              go_wp2_with fail
              refine (rInts_any _ _ _ _ _ _ _ _ _ o8.sl o9.sl).mono ?_
              rintro e w50 ⟨rfl, f⟩
              rw [decide_eq_true rfl]
              go_wp2_with fail; go_meet; exact ⟨rfl, f⟩
        case rest =>
          obtain ⟨rfl, f⟩ := hcut
          replace h3 := h3.fr f; replace h4 := h4.fr f; replace ha := ha.fr f; replace hb := hb.fr f; replace o6 := o6.fr f; replace o8 := o8.fr f; replace F := F.trans f
          clear f o9
          obtain ⟨w51, rfl⟩ : ∃ wz : World, wz = wc := ⟨_, rfl⟩
          go_upto_region 29 with fail
          go_cut [222] from 214 to 222 (fun s wx => s = .bool false ∧ wx = w51)
          case first =>
            as_aux_lemma =>
              cases mx
              · go_wp2_with fail; go_meet; exact ⟨rfl, rfl⟩
              · obtain ⟨rfl, hms⟩ := G2.out rfl
                have hS := (G3.out rfl).2
                go_wp2_with fail
                refine (rSum_any _ _ _ _ _ o8.sl).mono ?_
                rintro e w' ⟨rfl, rfl⟩
                rw [hms]
                go_wp2_with fail
                refine (RS.out _ ha).mono ?_
                rintro e w' ⟨rfl, rfl⟩
                go_wp2_with fail; go_meet; exact ⟨rfl, rfl⟩
          case rest =>
            obtain ⟨rfl, rfl⟩ := hcut
            obtain ⟨w52, rfl⟩ : ∃ wz : World, wz = wc := ⟨_, rfl⟩
            clear o8
            go_upto_if 223 with fail
            go_cut [] from 224 to 270 (fun wx => Fr w52 wx)
            case first =>
              as_aux_lemma =>
                cases ab
                · go_wp2_with fail; go_meet; exact Fr.refl _
                · obtain ⟨rfl, rfl⟩ := G5.out rfl
                  obtain ⟨rfl, g2, rfl⟩ := G4.out rfl
                  obtain ⟨g3, g4⟩ := G3.out rfl
                  have g5 : ¬ ea < db := by omega
                  go_wp2_with fail
                  refine (R7.out _ _ _ _ ha hb o6.ss).mono ?_
                  rintro e w53 ⟨rfl, f1⟩
                  replace ha := ha.fr f1; replace hb := hb.fr f1
                  go_wp2_with fail
                  refine (R8.out _ hb ha).mono ?_
                  rintro e w54 ⟨rfl, f2⟩
                  replace ha := ha.fr f2; replace hb := hb.fr f2
                  go_wp2_with fail
                  refine (R9.out _ ha hb).mono ?_
                  rintro e w55 ⟨rfl, f3⟩
                  replace ha := ha.fr f3
                  go_wp2_with fail
                  refine (RS.out _ ha).mono ?_
                  rintro e w' ⟨rfl, rfl⟩
                  go_wp2_with fail; go_meet; exact (f1.trans f2).trans f3
            case rest =>
              replace h3 := h3.fr hcut; replace h4 := h4.fr hcut; replace F := F.trans hcut
              clear hcut ha hb o6 R7 R8 R9 G2 G3 G4 G5 RS
              obtain ⟨w56, rfl⟩ : ∃ wz : World, wz = wc := ⟨_, rfl⟩
              cases ok
              · go_wp2
                go_ret
                exact ⟨rfl, F⟩
              · obtain rfl := K1.out rfl
                have k2 := K2.out rfl
                obtain ⟨k3, k4⟩ := K3.out rfl
                go_wp2_with fail
                refine (Q5.out _ h3 h4).mono ?_
                rintro e w57 ⟨rfl, f⟩
                replace h3 := h3.fr f; replace F := F.trans f
                go_wp2_with fail
                refine (rSum_any _ _ _ _ _ h3).mono ?_
                rintro e w' ⟨rfl, rfl⟩
                go_wp2
                go_ret
                exact ⟨by simp <;> omega, F⟩
end Go.Proofs.Ytboekndojgbkfaa
