import Derived.Test.YtboekndojgbkfaaTransM
import Derived.Test.YtboekndojgbkfaaLeastI
import Derived.Test.YtboekndojgbkfaaDrawK2
import Derived.Test.YtboekndojgbkfaaCut
import Derived.Test.YtboekndojgbkfaaMixW
import Derived.Deep.DeepCutAuto
import Derived.Deep.CutRange
/- The law FnTransport. -/
set_option linter.unusedVariables false
namespace Go.Proofs.Ytboekndojgbkfaa
open Go.ChangeShapes Go.WideShapes Go.ChangeAt Go.RowKit
/-- The first rows of the distances. -/
def farT (n j : Nat) : List (List Int) := (List.range j).map fun i => lst n (dis i)
theorem farT_all (n : Nat) : farT n n = tab n dis := rfl
theorem farT_succ (n j : Nat) : farT n (j + 1) = farT n j ++ [lst n (dis j)] := by simp [farT, List.range_succ]
theorem lst_succ (k : Nat) (f : Nat → Int) : lst (k + 1) f = lst k f ++ [f k] := by simp [lst, List.range_succ]
theorem dis_neg {i k : Nat} (h : (i : Int) - k < 0) : dis i k = -((i : Int) - k) := by unfold dis; omega
theorem dis_pos {i k : Nat} (h : ¬ (i : Int) - k < 0) : dis i k = (i : Int) - k := by unfold dis; omega
theorem num_nth {u : List Int} {n : Nat} (h : numB u n = true) (i : Nat) : -999 ≤ nth u i ∧ nth u i ≤ 999 := nth_bd (numB_iff.1 h).2 (by omega) (by omega) i
/-- What is known behind a test of potentials. -/
theorem pots_of {p q u v : List Int} {C : List (List Int)} (h : apV p q u v C = true) : (p.length ≤ 8 ∧ q.length = p.length ∧ u.length = p.length ∧ v.length = p.length) ∧ (∀ i, 0 ≤ nth p i ∧ nth p i ≤ 40) ∧ (∀ i, 0 ≤ nth q i ∧ nth q i ≤ 40) ∧ (∀ i, -999 ≤ nth u i ∧ nth u i ≤ 999) ∧ ∀ i, -999 ≤ nth v i ∧ nth v i ≤ 999 := by
  rw [apV, Bool.and_eq_true] at h
  obtain ⟨a1, a2, a3, a4⟩ := apOk_iff.1 h.1
  obtain ⟨s1, s2, s3, s4⟩ := alikeB_iff.1 a1
  have l8 := (spreadB_iff.1 s1).1
  have l1 := (numB_iff.1 a3).1
  have l2 := (numB_iff.1 a4).1
  exact ⟨by omega, spread_nth s1, spread_nth s2, num_nth a3, num_nth a4⟩
set_option maxRecDepth 100000 in
set_option maxHeartbeats 4000000 in
theorem walk_FnTransport (a : Option Addr) (n cap : Nat) (zs : List Int) (w : World) (h : SLB w a n cap zs) :
    Calls Try.prog 15 #[.slice a n cap] w fun e w' => e = .returned (.bool true) ∧ Fr w w' := by
  have hle := h.le; have hmx := h.mx
  have HV := Lib.hid (rBig_any w a n cap (by omega))
  by_cases hbig : 65536 < n
  · have hd : decide (65536 < n) = true := decide_eq_true hbig
    rw [hd] at HV
    go_enter Try.func15, Try.ntmps15
    go_wp2_with fail
    refine HV.out.mono ?_
    rintro e w' ⟨rfl, rfl⟩
    go_wp2
    go_ret
    exact ⟨rfl, Fr.refl _⟩
  · have hd : decide (65536 < n) = false := decide_eq_false hbig
    rw [hd] at HV
    have H := Lib.hid h
    have F := Fr.refl w
    clear h
    go_enter Try.func15, Try.ntmps15
    go_wp2_with fail
    refine HV.out.mono ?_
    rintro e w' ⟨rfl, rfl⟩
    clear HV hd
    go_wp2_with fail
    refine (DrawPlanCost_any w a n cap zs H.out).mono ?_
    rintro e w1 ⟨p3, m3, c3, p4, m4, c4, t5, n5, c5, t6, n6, c6, rfl, ⟨ps, qs, T, C, h3, h4, h5, h6⟩, hm, f⟩
    replace F := F.trans f
    clear f
    have Q1 := Lib.hid (fun W h k l r => impl_PlanCost_any W p3 p4 t5 t6 m3 c3 m4 c4 n5 c5 n6 c6 ps qs T C h k l r)
    have Q2 := Lib.hid (fun W h k l r => spec_PlanCost_any W p3 p4 t5 t6 m3 c3 m4 c4 n5 c5 n6 c6 ps qs T C h k l r)
    have Q3 := Lib.hid (fun W h k r => impl_LeastCost_any W p3 p4 t6 m3 c3 m4 c4 n6 c6 ps qs C h k r)
    have Q4 := Lib.hid (fun W h k r => spec_LeastCost_any W p3 p4 t6 m3 c3 m4 c4 n6 c6 ps qs C h k r)
    have K1 := Lib.hid (fun h : pcOk ps qs T C = true => least_le h)
    generalize pcV ps qs T C = pv at Q1 Q2 K1
    generalize pcOk ps qs T C = pok at Q1 Q2 K1
    generalize leastV ps qs C = lv at Q3 Q4 K1
    generalize okC ps qs C = lok at Q3 Q4 K1
    go_wp2_with fail
    refine (Q1.out _ h3 h4 h5 h6).mono ?_
    rintro e w2 ⟨rfl, f⟩
    replace h3 := h3.fr f
    replace h4 := h4.fr f
    replace h5 := h5.fr f
    replace h6 := h6.fr f
    replace F := F.trans f
    clear f Q1
    go_wp2_with fail
    refine (Q2.out _ h3 h4 h5 h6).mono ?_
    rintro e w3 ⟨rfl, f⟩
    replace h3 := h3.fr f
    replace h4 := h4.fr f
    replace h6 := h6.fr f
    replace F := F.trans f
    clear f Q2 h5
    go_upto_if 80 with fail
    go_cut [] from 81 to 110 (fun wx => Fr w3 wx)
    case first =>
      as_aux_lemma =>
        cases pok
        · go_wp2_with fail; go_meet; exact Fr.refl _
        · obtain ⟨rfl, hle1⟩ := K1.out rfl
          go_wp2_with fail
          refine (Q3.out _ h3 h4 h6).mono ?_
          rintro e w4 ⟨rfl, f⟩
          replace h3 := h3.fr f
          replace h4 := h4.fr f
          replace h6 := h6.fr f
          go_wp2_with fail
          refine (Q4.out _ h3 h4 h6).mono ?_
          rintro e w5 ⟨rfl, f2⟩
          clear h3 h4 h6 Q3 Q4
          go_wp2_with fail; go_meet; exact f.trans f2
    case rest =>
      clear h3 h4 h6 Q3 Q4 K1
      replace F := F.trans hcut
      clear hcut
      obtain ⟨w10, rfl⟩ : ∃ wz : World, wz = wc := ⟨_, rfl⟩
      go_wp2_with fail
      refine (DrawArePotentials_any _ a n cap zs (H.out.fr F)).mono ?_
      rintro e w11 ⟨p3, m3, c3, p4, m4, c4, u5, n5, c5, v6, n6, c6, t7, n7, c7, rfl, ⟨ps, qs, us, vs, C, h3, h4, h5, h6, h7⟩, hm, f⟩
      replace F := F.trans f
      clear f
      have Q1 := Lib.hid (fun W h k l r s => impl_ArePotentials_any W p3 p4 u5 v6 t7 m3 c3 m4 c4 n5 c5 n6 c6 n7 c7 ps qs us vs C h k l r s)
      have Q2 := Lib.hid (fun W h k l r s => spec_ArePotentials_any W p3 p4 u5 v6 t7 m3 c3 m4 c4 n5 c5 n6 c6 n7 c7 ps qs us vs C h k l r s)
      have Q3 := Lib.hid (fun W h k r => impl_LeastCost_any W p3 p4 t7 m3 c3 m4 c4 n7 c7 ps qs C h k r)
      have Q4 := Lib.hid (fun W h k r => spec_LeastCost_any W p3 p4 t7 m3 c3 m4 c4 n7 c7 ps qs C h k r)
      have K1 := Lib.hid (fun h : apV ps qs us vs C = true => pot_le h)
      have K2 := Lib.hid (fun h : apV ps qs us vs C = true => pots_of h)
      generalize apOk ps qs us vs C = pok at Q1 Q2
      generalize apV ps qs us vs C = pg at Q1 Q2 K1 K2
      generalize leastV ps qs C = lv at Q3 Q4 K1
      generalize okC ps qs C = lok at Q3 Q4 K1
      go_wp2_with fail
      refine (Q1.out _ h3 h4 h5 h6 h7).mono ?_
      rintro e w12 ⟨rfl, f⟩
      replace h3 := h3.fr f
      replace h4 := h4.fr f
      replace h5 := h5.fr f
      replace h6 := h6.fr f
      replace h7 := h7.fr f
      replace F := F.trans f
      clear f Q1
      go_wp2_with fail
      refine (Q2.out _ h3 h4 h5 h6 h7).mono ?_
      rintro e w13 ⟨rfl, f⟩
      replace h3 := h3.fr f
      replace h4 := h4.fr f
      replace h5 := h5.fr f
      replace h6 := h6.fr f
      replace h7 := h7.fr f
      replace F := F.trans f
      clear f Q2
      go_upto_if 145 with fail
      go_cut [] from 146 to 202 (fun wx => Fr w13 wx)
      case first =>
        as_aux_lemma =>
          cases pg
          · go_wp2_with fail; go_meet; exact Fr.refl _
          · obtain ⟨rfl, hle1⟩ := K1.out rfl
            obtain ⟨⟨l1, l2, l3, l4⟩, b1, b2, b3, b4⟩ := K2.out rfl
            have e3 := h3.len; have e4 := h4.len; have e5 := h5.len; have e6 := h6.len
            obtain rfl : m4 = m3 := by omega
            obtain rfl : n5 = m4 := by omega
            obtain rfl : n6 = n5 := by omega
            rw [e3] at hle1
            have HLE := Lib.hid hle1
            have hn8 : n6 ≤ 8 := by omega
            have B1 := Lib.hid b1; have B2 := Lib.hid b2; have B3 := Lib.hid b3; have B4 := Lib.hid b4
            clear l1 l2 l3 l4 e3 e4 e5 e6 b1 b2 b3 b4 hle1 K1 K2
            go_wp2_with fail
            refine (Q3.out _ h3 h4 h7).mono ?_
            rintro e w14 ⟨rfl, f⟩
            replace h3 := h3.fr f
            replace h4 := h4.fr f
            replace h5 := h5.fr f
            replace h6 := h6.fr f
            replace h7 := h7.fr f
            clear Q3
            go_wp2
            go_loopw [26, 27] (fun s i wr => ∃ k : Nat, k ≤ n6 ∧ i = .int .i64 k ∧ s = .int .i64 (potS ps qs us vs k) ∧ Qt w14 wr) (fun _ i _ => n6 - (intOf i).toNat)
            case atStart => exact ⟨0, Nat.zero_le _, rfl, rfl, Qt.refl _⟩
            case round =>
              obtain ⟨k, hk, rfl, rfl, hQ⟩ := hrel
              by_cases hlt : k < n6
              · obtain ⟨x3, o3, rfl, q3⟩ := (h3.qt hQ).cells.resolve_left (by omega)
                obtain ⟨x4, o4, rfl, q4⟩ := (h4.qt hQ).cells.resolve_left (by omega)
                obtain ⟨x5, o5, rfl, q5⟩ := (h5.qt hQ).cells.resolve_left (by omega)
                obtain ⟨x6, o6, rfl, q6⟩ := (h6.qt hQ).cells.resolve_left (by omega)
                replace q3 := q3 k hlt
                replace q4 := q4 k hlt
                replace q5 := q5 k hlt
                replace q6 := q6 k hlt
                have i1 : (0 : Int) ≤ (k : Int) := by omega
                have i2 : (k : Int) < (n6 : Int) := by omega
                have b5 := potS_bd B1.out B2.out B3.out B4.out k
                have key : ∀ x y : Int, (0 ≤ x ∧ x ≤ 40) → (-999 ≤ y ∧ y ≤ 999) → -39960 ≤ x * y ∧ x * y ≤ 39960 := fun x y hx hy => by
                  have h1 : x * y ≤ x * 999 := Int.mul_le_mul_of_nonneg_left hy.2 hx.1
                  have h2 : x * (-999) ≤ x * y := Int.mul_le_mul_of_nonneg_left hy.1 hx.1
                  omega
                have b6 := key _ _ (B1.out k) (B3.out k)
                have b7 := key _ _ (B2.out k) (B4.out k)
                have E1 : Hid (potS ps qs us vs (k + 1) = potS ps qs us vs k + nth ps k * nth us k + nth qs k * nth vs k) := Lib.hid rfl
                generalize potS ps qs us vs k = z at b5 E1 ⊢
                have e1 : IntKind.i64.wrap (nth ps k * nth us k) = nth ps k * nth us k := IntWalk.i64_in _ (by omega)
                have e2 : IntKind.i64.wrap (z + nth ps k * nth us k) = z + nth ps k * nth us k := IntWalk.i64_in _ (by omega)
                have e3 : IntKind.i64.wrap (nth qs k * nth vs k) = nth qs k * nth vs k := IntWalk.i64_in _ (by omega)
                have e4 : IntKind.i64.wrap (z + nth ps k * nth us k + nth qs k * nth vs k) = z + nth ps k * nth us k + nth qs k * nth vs k := IntWalk.i64_in _ (by omega)
                clear key
                go_wp2
                go_quiet (fail)
                clear e1 e2 e3 e4
                go_wp2
                go_roundw
                case rel => exact ⟨k + 1, by omega, by go_num, by rw [E1.out], hQ.drewN _⟩
                case measure => simp [intOf]; omega
              · obtain rfl : n6 = k := by omega
                have hle2 := HLE.out
                have hf2 := f.trans hQ.fr
                generalize potS ps qs us vs n6 = z at hle2 ⊢
                go_wp2_with fail
                refine (Q4.out _ (h3.qt hQ) (h4.qt hQ) (h7.qt hQ)).mono ?_
                rintro e w15 ⟨rfl, f3⟩
                clear h3 h4 h5 h6 h7 Q4
                go_wp2_with fail; go_meet; exact hf2.trans f3
      case rest =>
        clear h3 h4 h5 h6 h7 Q3 Q4 K1 K2
        replace F := F.trans hcut
        clear hcut
        obtain ⟨w20, rfl⟩ : ∃ wz : World, wz = wc := ⟨_, rfl⟩
        go_wp2_with fail
        refine (DrawEarthDistance_any _ a n cap zs (H.out.fr F)).mono ?_
        rintro e w21 ⟨pa, ma, ca, pb, mb, cb, rfl, ⟨xs, ys, ha, hb⟩, hma, hmb, f⟩
        replace F := F.trans f
        clear f
        have Q1 := Lib.hid (fun W h k => impl_EarthDistance_any W pa pb ma ca mb cb xs ys h k)
        have Q2 := Lib.hid (fun W h k => spec_EarthDistance_any W pa pb ma ca mb cb xs ys h k)
        have Q3 := Lib.hid (fun W t r s h k l => impl_LeastCost_any W pa pb t ma ca mb cb r s xs ys (tab xs.length dis) h k l)
        have Q4 := Lib.hid (fun W h k => impl_SortedPlan_any W pa pb ma ca mb cb xs ys h k)
        have Q5 := Lib.hid (fun W t r s v i c h k l x => impl_PlanCost_any W pa pb t v ma ca mb cb r s i c xs ys (sortedV xs ys) (tab xs.length dis) h k l x)
        have K1 := Lib.hid (fun h : alikeB xs ys = true => dis_laws h)
        have K2 := Lib.hid (fun h : alikeB xs ys = true => (alikeB_iff.1 h))
        generalize pcV xs ys (sortedV xs ys) (tab xs.length dis) = pv at Q5 K1
        generalize pcOk xs ys (sortedV xs ys) (tab xs.length dis) = pok at Q5 K1
        generalize leastV xs ys (tab xs.length dis) = lv at Q3 K1
        generalize okC xs ys (tab xs.length dis) = lok at Q3 K1
        generalize sortedV xs ys = SV at Q4 Q5
        generalize earV xs ys = ev at Q1 Q2 K1
        generalize alikeB xs ys = al at Q1 Q2 Q4 K1 K2
        go_wp2_with fail
        refine (Q1.out _ ha hb).mono ?_
        rintro e w22 ⟨rfl, f⟩
        replace ha := ha.fr f
        replace hb := hb.fr f
        replace F := F.trans f
        clear f Q1
        go_wp2_with fail
        refine (Q2.out _ ha hb).mono ?_
        rintro e w23 ⟨rfl, f⟩
        replace ha := ha.fr f
        replace hb := hb.fr f
        replace F := F.trans f
        clear f Q2
        cases al
        · go_wp2
          go_ret
          exact ⟨rfl, F⟩
        · obtain ⟨rfl, rfl, rfl, rfl⟩ := K1.out rfl
          obtain ⟨s1, s2, s3, s4⟩ := K2.out rfl
          have l8 := (spreadB_iff.1 s1).1
          have e1 := ha.len; have e2 := hb.len
          obtain rfl : mb = ma := by omega
          rw [e1] at Q3 Q5
          have hn8 : mb ≤ 8 := by omega
          clear s1 s2 s3 s4 l8 e1 e2 K1 K2
          have o0 := OwnSS.made0 (B := w23.heap.size) (H := (w23.alloc (.cells #[] 22)).heap.size) w23 (Nat.le_refl _) (by simp)
          have f0 := (Fr.refl w23).alloc (.cells #[] 22)
          go_wp2
          go_loopw [36, 37] (fun t i wr => ∃ (j : Nat) (q : Option Addr) (c : Nat), j ≤ mb ∧ i = .int .i64 j ∧ t = .slice q j c ∧ OwnSS w23.heap.size wr.heap.size wr q j c (farT mb j) ∧ Fr w23 wr) (fun _ i _ => mb - (intOf i).toNat)
          case atStart => exact ⟨0, _, _, Nat.zero_le _, rfl, rfl, o0, f0⟩
          case round =>
            clear o0 f0
            obtain ⟨j, q, c, hj, rfl, rfl, oT, fT⟩ := hrel
            obtain ⟨wo, rfl⟩ : ∃ wo : World, wo = wr := ⟨_, rfl⟩
            by_cases hlt : j < mb
            · have vj0 : (0 : Int) ≤ (j : Int) := by omega
              have vj : (j : Int) < (mb : Int) := by omega
              have hsz := fT.size
              have o1 := Own.made0 (B := wo.heap.size) wo (Nat.le_refl _)
              have f1 := (Fr.refl wo).alloc (.cells #[] 3)
              go_wp2
              go_loopw [38, 39] (fun r i wr => ∃ (k : Nat) (x : Option Addr) (cr : Nat), k ≤ mb ∧ i = .int .i64 k ∧ r = .slice x k cr ∧ Own wo.heap.size wr x k cr (lst k (dis j)) ∧ Fr wo wr) (fun _ i _ => mb - (intOf i).toNat)
              case atStart => exact ⟨0, _, _, Nat.zero_le _, rfl, rfl, o1, f1⟩
              case round =>
                clear o1 f1
                obtain ⟨k, x, cr, hk, rfl, rfl, or, fr⟩ := hrel
                obtain ⟨wi, rfl⟩ : ∃ wo : World, wo = wr := ⟨_, rfl⟩
                by_cases hkt : k < mb
                · have vk0 : (0 : Int) ≤ (k : Int) := by omega
                  have vk : (k : Int) < (mb : Int) := by omega
                  have hz := fr.size
                  have HL := Lib.hid (lst_succ k (dis j))
                  by_cases hd : (j : Int) - (k : Int) < 0
                  · rw [dis_neg hd] at HL
                    go_wp2_with (at_builtin; refine ap_int _ rfl _ _ rfl wo.heap.size x k cr _ _ rfl rfl or hz (by unfold I64; omega) (by omega) ?_)
                    intro g' c' w' hown hgr _
                    rw [← HL.out] at hown
                    have f2 := fr.grown hgr (fun t ht => (or.blk t ht).1)
                    clear or fr hgr
                    go_wp2
                    go_roundw
                    case rel => exact ⟨k + 1, _, _, by omega, by go_num, rfl, hown, f2⟩
                    case measure => simp [intOf]; omega
                  · rw [dis_pos hd] at HL
                    go_wp2_with (at_builtin; refine ap_int _ rfl _ _ rfl wo.heap.size x k cr _ _ rfl rfl or hz (by unfold I64; omega) (by omega) ?_)
                    intro g' c' w' hown hgr _
                    rw [← HL.out] at hown
                    have f2 := fr.grown hgr (fun t ht => (or.blk t ht).1)
                    clear or fr hgr
                    go_wp2
                    go_roundw
                    case rel => exact ⟨k + 1, _, _, by omega, by go_num, rfl, hown, f2⟩
                    case measure => simp [intOf]; omega
                · obtain rfl : mb = k := by omega
                  have hin := or.within
                  have oT2 := oT.fr fr
                  have hz := fr.size
                  go_wp2_with (at_builtin; refine ap_row _ rfl _ _ rfl w23.heap.size wo.heap.size q j c (farT mb j) x mb cr _ rfl rfl oT2 hsz hz (or.mono hsz) hin (by omega) ?_)
                  intro g5 c5 w3 hown hgr hnew
                  rw [← farT_succ] at hown
                  have f3 := (fT.trans fr).grown hgr (fun t ht => (oT2.within t ht).1)
                  clear or oT oT2 hgr
                  go_wp2
                  go_roundw
                  case rel => exact ⟨j + 1, _, _, by omega, by go_num, rfl, hown, f3⟩
                  case measure => simp [intOf]; omega
            · obtain rfl : mb = j := by omega
              rw [farT_all] at oT
              replace ha := ha.fr fT
              replace hb := hb.fr fT
              replace F := F.trans fT
              have hT := oT.ss
              clear oT fT
              go_wp2_with fail
              refine (Q3.out _ _ _ _ ha hb hT).mono ?_
              rintro e w24 ⟨rfl, f⟩
              replace ha := ha.fr f
              replace hb := hb.fr f
              replace hT := hT.fr f
              replace F := F.trans f
              clear f Q3
              go_wp2_with fail
              refine (Q4.out _ ha hb).mono ?_
              rintro e w25 ⟨t8, n8, c8, rfl, o8, f, -, -⟩
              replace ha := ha.fr f
              replace hb := hb.fr f
              replace hT := hT.fr f
              replace F := F.trans f
              clear f Q4
              go_wp2_with fail
              refine (Q5.out _ _ _ _ _ _ _ ha hb o8.ss hT).mono ?_
              rintro e w26 ⟨rfl, f⟩
              replace F := F.trans f
              clear f Q5 ha hb hT o8
              go_wp2
              go_ret
              exact ⟨rfl, F⟩
end Go.Proofs.Ytboekndojgbkfaa
