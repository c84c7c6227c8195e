import Derived.Test.YtojipjjfndgbhaaZV14
import Derived.Test.YtojipjjfndgbhaaZV02
/- Contracts of the reference: payments, sums over children, caps. -/
set_option linter.unusedVariables false
namespace Go.Proofs.Ytojipjjfndgbhaa
open Go.ChangeShapes Go.WideShapes Go.ChangeAt Go.RowKit

theorem l4Pays_any (w : World) (p q a : Option Addr) (n c m d l k : Nat) (P W X : List Int) (hP : SL w p n c P) (hW : SL w q m d W) (hX : SL w a l k X) :
    Calls Try.prog 120 #[.agg #[.slice p n c, .slice q m d], .slice a l k] w fun e w' => e = .returned (.bool (l3B P W X)) ∧ Fr w w' := by
  have HP := Lib.hid hP.len; have HX := Lib.hid hX.len
  have hn : n ≤ 9223372036854775807 := by have := hP.le; have := hP.mx; omega
  have hl : l ≤ 9223372036854775807 := by have := hX.le; have := hX.mx; omega
  have hfr : Fr w (w.alloc (.cells #[.slice p n c, .slice q m d] 29)) := (Fr.refl w).alloc _
  go_enter Try.func120, Try.ntmps120
  go_wp2
  go_loop [5] (fun i => ∃ j : Nat, j ≤ l ∧ i = .int .i64 j ∧ Hid (allB (X.take j) (-999) 999 = true)) (fun i => l - (intOf i).toNat)
  case atStart => exact ⟨0, Nat.zero_le _, rfl, Lib.hid rfl⟩
  case round =>
    obtain ⟨j, hj, rfl, ha⟩ := hrel
    by_cases hlt : j < l
    · obtain ⟨b, off, rfl, hc⟩ := (hX.fr hfr).cells.resolve_left (by omega)
      replace hc := hc j hlt
      have hks : j < X.length := by rw [HX.out]; exact hlt
      have HS := Lib.hid (allB_snoc X (-999) 999 j hks)
      have HKS := Lib.hid hks
      clear hks
      cases hb : inB (nth X j) (-999) 999
      · have HV : Hid (l3B P W X = false) := Lib.hid (by rw [l3B, procB, allB_no HKS.out hb]; simp)
        go_wp2_with (go_at_call 88; refine (l1In_any _ _ _ _).mono ?_; rintro e w' ⟨rfl, rfl⟩)
        go_ret
        exact ⟨by rw [HV.out]; rfl, hfr⟩
      · have HB := Lib.hid hb
        go_wp2_with (go_at_call 88; refine (l1In_any _ _ _ _).mono ?_; rintro e w' ⟨rfl, rfl⟩)
        go_round
        case rel => exact ⟨j + 1, by omega, by go_num, Lib.hid (by rw [HS.out, ha.out, HB.out]; rfl)⟩
        case measure => simp [intOf]; omega
    · obtain rfl : j = l := by omega
      have HA : Hid (allB X (-999) 999 = true) := Lib.hid (by rw [← List.take_of_length_le (l := X) (i := j) (by rw [HX.out]; omega)]; exact ha.out)
      go_wp2_with fail
      refine (l2Good_any _ _ _ _ _ _ _ _ _ (hP.fr hfr) (hW.fr hfr)).mono ?_
      rintro e w1 ⟨rfl, f1⟩
      have hbox := f1.newCell (j := 0) (v := .slice p n c) rfl
      have HV : Hid (l3B P W X = (treeB P W && (j == n))) := Lib.hid (by rw [l3B, procB, HA.out, HP.out, HX.out, Bool.and_true])
      cases ht : treeB P W
      · have HV2 : Hid (l3B P W X = false) := Lib.hid (by rw [HV.out, ht]; rfl)
        go_wp2
        go_ret
        exact ⟨by rw [HV2.out]; rfl, hfr.trans f1⟩
      · have HV2 : Hid (l3B P W X = ((j : Int) == (n : Int))) := Lib.hid (by rw [HV.out, ht, beq_nat]; rfl)
        go_wp2
        go_ret
        exact ⟨by rw [HV2.out]; rfl, hfr.trans f1⟩

theorem l4Kids_any (w : World) (p q a : Option Addr) (n c m d l b : Nat) (P W L : List Int) (x : Nat) (hP : SL w p n c P) (hL : SL w a l b L) (hp : parB P = true) (hn : n ≤ 24) (hl : l = n) (hx : x < n) (hv : ∀ i, -479520 ≤ nth L i ∧ nth L i ≤ 479520) :
    Calls Try.prog 141 #[.agg #[.slice p n c, .slice q m d], .slice a l b, .int .i64 x] w fun e w' => e = .returned (.int .i64 (kidUp P (nth L) x n)) ∧ Fr w w' := by
  subst hl
  have HP := Lib.hid hP.len
  have Hv := Lib.hid hv
  have hfr : Fr w (w.alloc (.cells #[.slice p l c, .slice q m d] 29)) := (Fr.refl w).alloc _
  have H0 := Lib.hid (Blk.new w #[.slice p l c, .slice q m d] 29)
  have c0 := H0.out.cell (j := 0) rfl; have c1 := H0.out.cell (j := 1) rfl
  clear hv
  go_enter Try.func141, Try.ntmps141
  go_wp2_with fail
  clear c0 c1
  refine (l2Kids_any _ _ _ _ _ _ _ x _ (hP.fr hfr) hp (by omega) hx).mono ?_
  rintro e w1 ⟨a2, n2, c2, rfl, o2, f2, _⟩
  have hF := hfr.trans f2
  have Hn2 := Lib.hid o2.len
  have hn2 : n2 ≤ 24 := by have := kidsTo_len P x l; have := Hn2.out; omega
  have hL1 := hL.fr hF
  have HU : Hid (lsum (nth L) (kidsTo P x l) = kidUp P (nth L) x l) := Lib.hid (lsum_kids _ _ _ _)
  have hb : Hid (∀ i, i ≤ n2 → -(479520 * (i : Int)) ≤ lsum (nth L) ((kidsTo P x l).take i) ∧ lsum (nth L) ((kidsTo P x l).take i) ≤ 479520 * (i : Int)) := Lib.hid (fun i hi => by
    have h := lsum_bd (M := 479520) Hv.out ((kidsTo P x l).take i)
    rw [List.length_take, Nat.min_eq_left (by rw [Hn2.out]; exact hi)] at h; exact h)
  have he := o2.sl
  clear o2 hp
  go_wp2
  go_loop [7, 9] (fun s i => ∃ k : Nat, k ≤ n2 ∧ i = .int .i64 k ∧ s = .int .i64 (lsum (nth L) ((kidsTo P x l).take k))) (fun _ i => n2 - (intOf i).toNat)
  case atStart => exact ⟨0, by omega, rfl, by rw [lsum_zero]⟩
  case round =>
    obtain ⟨k, hk, rfl, rfl⟩ := hrel
    by_cases hlt : k < n2
    · obtain ⟨y, hy, hyl, _⟩ := kids_nth (P := P) (x := x) (k := l) (i := k) (by rw [Hn2.out]; exact hlt)
      obtain ⟨b2, of2, rfl, hce⟩ := he.cells.resolve_left (by omega)
      replace hce := hce k hlt
      have HS : Hid (lsum (nth L) ((kidsTo P x l).take (k + 1)) = lsum (nth L) ((kidsTo P x l).take k) + nth L y) := Lib.hid (by rw [lsum_take (by rw [Hn2.out]; exact hlt), hy, Int.toNat_natCast])
      rw [hy] at hce
      clear hy
      obtain ⟨bl, ol, rfl, hcl⟩ := hL1.cells.resolve_left (by omega)
      replace hcl := hcl y hyl
      have b1 := hb.out k hk
      have b2' := Hv.out y
      go_wp2
      go_round
      case rel => exact ⟨k + 1, by omega, by go_num, by rw [HS.out]⟩
      case measure => simp [intOf]; omega
    · obtain rfl : k = n2 := by omega
      go_wp2
      go_ret
      exact ⟨ret_int (by rw [List.take_of_length_le (by rw [Hn2.out]; omega), HU.out]), hF⟩

set_option maxRecDepth 100000 in
set_option maxHeartbeats 1000000 in
theorem l4Caps_any (w : World) (p q a : Option Addr) (n c m d l b : Nat) (P W X : List Int) (hP : SL w p n c P) (hW : SL w q m d W) (hX : SL w a l b X) (ht : treeB P W = true) (hl : l = n) (hv : ∀ i, -999 ≤ nth X i ∧ nth X i ≤ 999) :
    Calls Try.prog 121 #[.agg #[.slice p n c, .slice q m d], .slice a l b] w (RetS (capM P W X) w) := by
  subst hl
  have HP := Lib.hid hP.len
  have HW := Lib.hid hW.len
  have Hv := Lib.hid hv
  have Ht := Lib.hid ht
  obtain ⟨t1, t2, t3, _⟩ := treeB_iff.1 ht
  have Hp := Lib.hid t3
  rw [HP.out] at t1
  have hml : m = l := by rw [← HW.out, t2, HP.out]
  subst hml
  have N2 : Hid ((gathM P W).length = m) := Lib.hid (by rw [gathM, gathTo_len, t2, HP.out])
  clear t2 t3 ht hv
  have hmk := fun w => run_make_row' 22 3 (.int .i64 0) 8 Try.underlying22 infoInt rfl .i64 .i64 m (by omega) (by omega) w
  have hfr : Fr w (w.alloc (.cells #[.slice p m c, .slice q m d] 29)) := (Fr.refl w).alloc _
  have H0 := Lib.hid (Blk.new w #[.slice p m c, .slice q m d] 29)
  go_enter Try.func121, Try.ntmps121
  go_upto_region 1 with fail
  generalize hw1 : w.alloc (.cells #[.slice p m c, .slice q m d] 29) = w1 at hfr H0 ⊢
  have z1 : w1.heap.size = w.heap.size + 1 := by rw [← hw1]; simp
  have Z1 := Lib.hid z1
  clear hw1 z1
  have hP1 := hP.fr hfr
  have hW1 := hW.fr hfr
  have c0 := H0.out.cell (j := 0) rfl
  have c1 := H0.out.cell (j := 1) rfl
  go_cut [5, 6] (fun s5 s6 wx => ∃ (g : Nat) (a2 : Option Addr) (n2 k2 : Nat), s5 = .slice (some ⟨g, 0, none⟩) m m ∧ s6 = .slice a2 n2 k2 ∧
    Own w1.heap.size wx (some ⟨g, 0, none⟩) m m (List.replicate m 0) ∧ Own w1.heap.size wx a2 n2 k2 (gathM P W) ∧ Apart (some ⟨g, 0, none⟩) a2 ∧ Fr w1 wx)
  case first =>
    go_region_held3 (fun w' => w'.cell? ⟨w.heap.size, 0, none⟩ = some (.slice p m c) ∧ w'.cell? ⟨w.heap.size, 1, none⟩ = some (.slice q m d))
      (first
        | go_keep
        | (exact ⟨(H0.out.fr F2).cell rfl, (H0.out.fr F2).cell rfl⟩))
      (first
        | (go_at_call 122; refine (l2Sums_any _ _ _ _ _ _ _ _ _ (hP1.fr (by first | exact (Fr.refl w1).drew' 1 | exact ((Fr.refl w1).alloc _).drew' 1)) (hW1.fr (by first | exact (Fr.refl w1).drew' 1 | exact ((Fr.refl w1).alloc _).drew' 1)) Ht.out).mono ?_; rintro e w2 ⟨a2, n2, c2, rfl, o2, f2, _⟩; have F2 : Fr w1 w2 := (by first | exact ((Fr.refl w1).drew' 1).trans f2 | exact (((Fr.refl w1).alloc _).drew' 1).trans f2); have y2 := F2.size; have x2 := o2.within; have o2' : Own w1.heap.size w2 a2 n2 c2 (gathM P W) := o2.mono (by first | exact Nat.le_refl _ | simp)))
    all_goals
      go_wp2_with fail
      go_meet
    · exact ⟨_, a2, n2, c2, rfl, rfl, (((Own.made w1 m (Nat.le_refl _) (by unfold maxLen; omega)).fr (Fr.drewN _ 1)).fr f2), o2', fun k h1 h2 => by simp [blkOf] at h1; have := x2 k h2; simp at this; omega, F2⟩
    · exact ⟨_, a2, n2, c2, rfl, rfl, Own.made w2 m y2 (by unfold maxLen; omega), o2'.fr ((Fr.refl _).alloc _), fun k h1 h2 => by simp [blkOf] at h1; have := x2 k h2; omega, F2.alloc _⟩
  case rest =>
    obtain ⟨g, a2, n2, k2, rfl, rfl, oO, oS, aOS, hF1⟩ := hcut
    have hn2 : n2 = m := by rw [← oS.len, N2.out]
    subst hn2
    have hg := oO.blk g rfl
    have hcb := Lib.hid (fun x => capM_bd (P := P) (W := W) (X := X) Ht.out Hv.out x)
    clear c0 c1 hP1 hW1 hmk
    go_wp2
    go_loopw [7] (fun i wr => ∃ x : Nat, x ≤ n2 ∧ i = .int .i64 ((x : Int) - 1) ∧ Own w1.heap.size wr (some ⟨g, 0, none⟩) n2 n2 (sufL P (nth (capM P W X)) x) ∧ Own w1.heap.size wr a2 n2 k2 (gathM P W) ∧ Fr w1 wr) (fun i _ => (intOf i + 1).toNat)
    case atStart => exact ⟨n2, by omega, rfl, by rw [← HP.out, sufL_all, HP.out]; exact oO, oS, hF1⟩
    case round =>
      clear oO oS hF1
      obtain ⟨x, hx, rfl, oO, oS, hF⟩ := hrel
      have hFw : Fr w wr := hfr.trans hF
      by_cases h0 : 0 < x
      · obtain ⟨t, rfl⟩ : ∃ t, x = t + 1 := ⟨x - 1, by omega⟩
        obtain ⟨gs, rfl, hs1, hs2, hsc, -⟩ := oS.op (by omega)
        replace hsc := hsc t (by omega)
        obtain ⟨bx, ox, rfl, hcx⟩ := (hX.fr hFw).cells.resolve_left (by omega)
        replace hcx := hcx t (by omega)
        obtain ⟨g', hg', hB, hlt2, hcc, hfro⟩ := oO.op (by omega)
        obtain rfl : g = g' := by simpa using hg'
        have hcg := hcc t (by omega)
        have hfa := hfro t
        clear hcc hfro hg'
        have hgs : gs ≠ g := fun e => aOS g rfl (by rw [← e]; rfl)
        have htl : t < P.length := by rw [HP.out]; omega
        have hpb : -479520 ≤ nth (gathM P W) t * nth X t ∧ nth (gathM P W) t * nth X t ≤ 479520 := cap_small Ht.out Hv.out 0 t htl
        have Hb := Lib.hid (hcb.out t htl)
        have i1 : (0 : Int) ≤ (t : Int) := by omega
        have i2 : (t : Int) < (n2 : Int) := by omega
        have HT := Lib.hid htl
        clear htl
        go_wp2
        have e1 : IntKind.i64.wrap (nth (gathM P W) t * nth X t) = nth (gathM P W) t * nth X t := IntWalk.i64_in _ (by omega)
        go_region
        clear e1
        have oO2 : Own w1.heap.size (wr.setCell ⟨g, t, none⟩ (.int .i64 (nth (gathM P W) t * nth X t))).drew (some ⟨g, 0, none⟩) n2 n2 ((sufL P (nth (capM P W X)) (t + 1)).set t (nth (gathM P W) t * nth X t)) := (oO.set rfl (by omega) (by unfold I64; omega)).drewN 1
        have oS2 : Own w1.heap.size (wr.setCell ⟨g, t, none⟩ (.int .i64 (nth (gathM P W) t * nth X t))).drew (some ⟨gs, 0, none⟩) n2 k2 (gathM P W) := (oS.setOther (by simpa [blkOf] using hgs) _).drewN 1
        have hF2 : Fr w1 (wr.setCell ⟨g, t, none⟩ (.int .i64 (nth (gathM P W) t * nth X t))).drew := (hF.setCell hB _).drew' 1
        generalize hwx : (wr.setCell ⟨g, t, none⟩ (.int .i64 (nth (gathM P W) t * nth X t))).drew = wx at oO2 oS2 hF2 ⊢
        clear hwx oO oS hF hFw hsc hcx hcg hfa
        have hFx := hfr.trans hF2
        have b0 := (H0.out.fr hF2).cell (j := 0) rfl
        have b1 := (H0.out.fr hF2).cell (j := 1) rfl
        obtain ⟨bw, ow, rfl, hcw⟩ := (hW.fr hFx).cells.resolve_left (by omega)
        replace hcw := hcw t (by omega)
        have HL : Hid (∀ y, t < y → y < P.length → nth ((sufL P (nth (capM P W X)) (t + 1)).set t (nth (gathM P W) t * nth X t)) y = nth (capM P W X) y) := Lib.hid (fun y h1 h2 => by
          rw [nth_set_ne (by omega), sufL_nth h2, if_neg (by omega)])
        have HK := Lib.hid (cap_kids (X := X) Ht.out HT.out HL.out)
        by_cases hw0 : nth W t = 0
        · have hwb : (nth W t == 0) = true := by simp [hw0]
          have HC : Hid (nth (capM P W X) t = max (nth (gathM P W) t * nth X t) (kidUp P (nth ((sufL P (nth (capM P W X)) (t + 1)).set t (nth (gathM P W) t * nth X t))) t n2)) := Lib.hid (by rw [HK.out, if_pos hw0, HP.out]; rfl)
          have hlv : Hid (∀ i, -479520 ≤ nth ((sufL P (nth (capM P W X)) (t + 1)).set t (nth (gathM P W) t * nth X t)) i ∧ nth ((sufL P (nth (capM P W X)) (t + 1)).set t (nth (gathM P W) t * nth X t)) i ≤ 479520) := Lib.hid (fun i => by
            by_cases hi : i < P.length
            · by_cases e : t = i
              · subst e; rw [nth_set_same (by rw [sufL_len]; exact hi)]; exact hpb
              · rw [nth_set_ne e, sufL_nth hi]
                split
                · omega
                · exact hcb.out i hi
            · rw [nth_out (by rw [List.length_set, sufL_len]; omega)]; omega)
          clear hw0
          obtain ⟨g', hg', -, -, hcc, hfro⟩ := oO2.op (by omega)
          obtain rfl : g = g' := by simpa using hg'
          have hcg := hcc t (by omega)
          rw [nth_set_same (by rw [sufL_len]; exact HT.out)] at hcg
          have hfa := hfro t
          clear hcc hfro hg'
          have hPx := hP.fr hFx
          have oL := oO2.sl
          have d0 := (H0.out.fr (hF2.drew' 1)).cell (j := 0) rfl
          have d1 := (H0.out.fr (hF2.drew' 1)).cell (j := 1) rfl
          go_wp2
          go_region_with (first
            | (go_at_call 141; refine (l4Kids_any _ _ _ _ _ _ _ _ _ _ P W _ t (hPx.fr (by first | exact (Fr.refl wx).drew' 1 | exact Fr.drewN wx 1)) (oL.fr (by first | exact (Fr.refl wx).drew' 1 | exact Fr.drewN wx 1)) Hp.out (by omega) rfl (by omega) hlv.out).mono ?_; rintro e w3 ⟨rfl, f3'⟩; have f3 : Fr wx w3 := (by first | exact ((Fr.refl wx).drew' 1).trans f3' | exact (Fr.drewN wx 1).trans f3'); have kc := f3.keep hcg; have kf := (oO2.fr f3).frz t)
            | (go_at_call 128; refine (l1Most_any _ _ _).mono ?_; rintro e w' ⟨rfl, rfl⟩))
          all_goals
            have hi64 := hcb.out t HT.out
            have oO3 := (oO2.fr f3).set rfl (show t < n2 by omega) (v := max (nth (gathM P W) t * nth X t) (kidUp P (nth ((sufL P (nth (capM P W X)) (t + 1)).set t (nth (gathM P W) t * nth X t))) t n2)) (by rw [← HC.out]; unfold I64; omega)
            have oS3 := (oS2.fr f3).setOther (p := ⟨g, t, none⟩) (by simpa [blkOf] using hgs) (.int .i64 (max (nth (gathM P W) t * nth X t) (kidUp P (nth ((sufL P (nth (capM P W X)) (t + 1)).set t (nth (gathM P W) t * nth X t))) t n2)))
            have hF3 := (hF2.trans f3).setCell (p := ⟨g, t, none⟩) hB (.int .i64 (max (nth (gathM P W) t * nth X t) (kidUp P (nth ((sufL P (nth (capM P W X)) (t + 1)).set t (nth (gathM P W) t * nth X t))) t n2)))
            have HS : Hid (((sufL P (nth (capM P W X)) (t + 1)).set t (nth (gathM P W) t * nth X t)).set t (max (nth (gathM P W) t * nth X t) (kidUp P (nth ((sufL P (nth (capM P W X)) (t + 1)).set t (nth (gathM P W) t * nth X t))) t n2)) = sufL P (nth (capM P W X)) t) := Lib.hid (by
              rw [← HC.out, List.set_set, sufL_set HT.out])
            rw [HS.out] at oO3
            clear HS hi64
            go_wp2
            go_roundw
            case rel => exact ⟨t, by omega, rfl, oO3, oS3, hF3⟩
            case measure => (simp [intOf]; try omega)
        · have hwb : (nth W t == 0) = false := by simp [hw0]
          have HC : Hid (nth (capM P W X) t = nth (gathM P W) t * nth X t) := Lib.hid (by rw [HK.out, if_neg hw0]; rfl)
          clear hw0
          go_wp2
          go_roundw
          case rel =>
            refine ⟨t, by omega, rfl, ?_, oS2, hF2⟩
            rw [← sufL_set HT.out, HC.out]; exact oO2
          case measure => (simp [intOf]; try omega)
      · obtain rfl : x = 0 := by omega
        have HZ : Hid (sufL P (nth (capM P W X)) 0 = capM P W X) := Lib.hid (by
          rw [sufL_zero]
          apply List.ext_getElem
          · rw [capM_len]; simp
          · intro i h1 h2; simp only [List.getElem_map, List.getElem_range]; exact nth_eq h2)
        rw [HZ.out] at oO
        have z1 := Z1.out
        go_wp2
        go_ret
        exact ⟨_, _, _, rfl, oO.mono (by omega), hFw, by omega⟩

end Go.Proofs.Ytojipjjfndgbhaa
/- Contracts of the reference's EnvelopeOf, of HouseValue and ShouldStop. -/
set_option linter.unusedVariables false
namespace Go.Proofs.Ytojipjjfndgbhaa
open Go.ChangeShapes Go.WideShapes Go.ChangeAt Go.RowKit

theorem envP_low {P W X : List Int} (ht : treeB P W = true) (hX : ∀ i, -999 ≤ nth X i ∧ nth X i ≤ 999) {x : Nat} (hx : x < P.length) : envP P W X x = (lowP (nth (capM P W X) x) (nth (gathM P W) x), lowQ (nth (capM P W X) x) (nth (gathM P W) x)) := by
  have b1 := capM_bd (W := W) ht hX x hx
  have b2 := sums_pos ht x hx
  have b3 := sums_le ht x
  have h1 := lowP_eq (lowOk_fit (p := nth (capM P W X) x) (q := nth (gathM P W) x) (by omega) (by omega))
  rw [envP, h1.1, h1.2]

set_option maxRecDepth 100000 in
set_option maxHeartbeats 1000000 in
theorem spec_EnvelopeOf_yes (w : World) (p q a : Option Addr) (n c m d l b : Nat) (P W X : List Int) (hP : SL w p n c P) (hW : SL w q m d W) (hX : SL w a l b X) (ht : treeB P W = true) (hx : procB P X = true) :
    Calls Try.prog 82 #[.agg #[.slice p n c, .slice q m d], .slice a l b] w (RetPB (envM P W X) true w) := by
  have HP := Lib.hid hP.len
  have HX := Lib.hid hX.len
  have Ht := Lib.hid ht
  have hl3 : l3B P W X = true := l3B_iff.2 ⟨ht, hx⟩
  have hln : l = n := by rw [← HX.out, ← HP.out]; exact (procB_iff.1 hx).1
  subst hln
  have Hv := Lib.hid (nth_bd (procB_iff.1 hx).2 (by omega) (by omega))
  obtain ⟨t1, t2, t3, _⟩ := treeB_iff.1 ht
  rw [HP.out] at t1
  have N4' : Hid ((gathM P W).length = l) := Lib.hid (by rw [gathM, gathTo_len, t2, HP.out])
  clear t2 t3 ht hx
  have hfr : Fr w ((w.alloc (.cells #[.slice p l c, .slice q m d] 29)).alloc (.cells #[] 46)) := ((Fr.refl w).alloc _).alloc _
  have H0 := Lib.hid ((Blk.new w #[.slice p l c, .slice q m d] 29).alloc (.cells #[] 46))
  have hm0 := OwnP.made0 (B := w.heap.size) (w.alloc (.cells #[.slice p l c, .slice q m d] 29)) (by simp)
  have c0 := H0.out.cell (j := 0) rfl; have c1 := H0.out.cell (j := 1) rfl
  go_enter Try.func82, Try.ntmps82
  go_wp2_with fail
  clear c0 c1
  refine (l4Pays_any _ _ _ _ _ _ _ _ _ _ _ _ _ (hP.fr hfr) (hW.fr hfr) (hX.fr hfr)).mono ?_
  rintro e w1 ⟨rfl, f1⟩
  have z1 := f1.size
  simp only [World.size_alloc] at z1 hm0
  have oP := hm0.fr f1
  have hF1 := hfr.trans f1
  have G0 := Lib.hid (H0.out.fr f1)
  have hP1 := hP.fr hF1
  have hW1 := hW.fr hF1
  have hX1 := hX.fr hF1
  clear hm0 f1
  go_upto_region 4 with fail
  clear hl3
  have c0 := G0.out.cell (j := 0) rfl
  have c1 := G0.out.cell (j := 1) rfl
  go_cut [7, 8] (fun s7 s8 wx => ∃ (a3 a4 : Option Addr) (k3 k4 : Nat), s7 = .slice a3 l k3 ∧ s8 = .slice a4 l k4 ∧ Own w1.heap.size wx a3 l k3 (capM P W X) ∧ Own w1.heap.size wx a4 l k4 (gathM P W) ∧ Fr w1 wx)
  case first =>
    go_region_held3 (fun w' => w'.cell? ⟨w.heap.size, 0, none⟩ = some (.slice p l c) ∧ w'.cell? ⟨w.heap.size, 1, none⟩ = some (.slice q m d))
      (first
        | go_keep
        | (exact ⟨(G0.out.fr F3).cell rfl, (G0.out.fr F3).cell rfl⟩)
        | (exact ⟨(G0.out.fr F2).cell rfl, (G0.out.fr F2).cell rfl⟩))
      (first
        | (go_at_call 121; refine (l4Caps_any _ _ _ _ _ _ _ _ _ _ _ _ _ (hP1.fr (Fr.drewN w1 1)) (hW1.fr (Fr.drewN w1 1)) (hX1.fr (Fr.drewN w1 1)) Ht.out rfl Hv.out).mono ?_; rintro e w2 ⟨a3, n3, c3, rfl, o3, f2, _⟩; have F2 : Fr w1 w2 := (Fr.drewN w1 1).trans f2)
        | (go_at_call 122; refine (l2Sums_any _ _ _ _ _ _ _ _ _ (hP1.fr F2) (hW1.fr F2) Ht.out).mono ?_; rintro e w3 ⟨a4, n4, c4, rfl, o4, f3, _⟩; have F3 : Fr w1 w3 := F2.trans f3))
    all_goals
      have N3 : n3 = l := by rw [← o3.len, capM_len, HP.out]
      have N4 : n4 = l := by rw [← o4.len, N4'.out]
      subst N3
      subst N4
      go_wp2_with fail
      go_meet
      exact ⟨a3, a4, c3, c4, rfl, rfl, (o3.mono (B' := w1.heap.size) (by first | exact Nat.le_refl _ | simp)).fr f3, o4.mono F2.size, F3⟩
  case rest =>
    obtain ⟨a3, a4, k3, k4, rfl, rfl, oA, oS, hF⟩ := hcut
    have oP1 := oP.fr hF
    have y3 := oA.within
    have y4 := oS.within
    have hF2 := hF1.trans hF
    have ap3 : Apart (some ⟨w.heap.size + 1, 0, none⟩) a3 := fun k h1 h2 => by simp only [blkOf, Option.map_some, Option.some.injEq] at h1; have := y3 k h2; omega
    have ap4 : Apart (some ⟨w.heap.size + 1, 0, none⟩) a4 := fun k h1 h2 => by simp only [blkOf, Option.map_some, Option.some.injEq] at h1; have := y4 k h2; omega
    have oA1 := oA.mono (show w.heap.size ≤ w1.heap.size by omega)
    have oS1 := oS.mono (show w.heap.size ≤ w1.heap.size by omega)
    have Hs := Lib.hid (sums_pos Ht.out)
    have Hl := Lib.hid (sums_le Ht.out)
    have Htb := Lib.hid (fun x => capM_bd (P := P) (W := W) (X := X) Ht.out Hv.out x)
    clear oP oA oS y3 y4 c0 c1 hP1 hW1 hX1
    go_wp2
    go_loopw [6, 9] (fun v i wr => ∃ (k cc : Nat) (ap : Option Addr), k ≤ l ∧ i = .int .i64 k ∧ v = .slice ap k cc ∧ OwnP w.heap.size wr ap k cc (envTo P W X k) ∧ Own w.heap.size wr a3 l k3 (capM P W X) ∧ Own w.heap.size wr a4 l k4 (gathM P W) ∧ Apart ap a3 ∧ Apart ap a4 ∧ Fr w wr) (fun _ i _ => l - (intOf i).toNat)
    case atStart => exact ⟨0, 0, _, by omega, rfl, rfl, oP1, oA1, oS1, ap3, ap4, hF2⟩
    case round =>
      clear oP1 oA1 oS1 ap3 ap4 hF hF2 hF1 hfr
      obtain ⟨k, cc, ap, hk, rfl, rfl, oP, oA, oS, ap3, ap4, hF⟩ := hrel
      by_cases hlt : k < l
      · obtain ⟨g3, rfl, hB3, hl3, hc3, _⟩ := oA.op (by omega)
        obtain ⟨g4, rfl, hB4, hl4, hc4, _⟩ := oS.op (by omega)
        replace hc3 := hc3 k hlt
        replace hc4 := hc4 k hlt
        have b1 := Htb.out k (by rw [HP.out]; exact hlt)
        have b2 := Hs.out k (by rw [HP.out]; exact hlt)
        have b3 := Hl.out k
        have HM := Lib.hid (envTo_succ P W X k)
        have HQ := Lib.hid (envP_low (W := W) Ht.out Hv.out (x := k) (by rw [HP.out]; exact hlt))
        have hsz := hF.size
        have i1 : (0 : Int) ≤ (k : Int) := by omega
        have i2 : (k : Int) < (l : Int) := by omega
        have ra : -9223372036854775807 ≤ nth (capM P W X) k ∧ nth (capM P W X) k ≤ 9223372036854775807 := by omega
        have rb : 0 < nth (gathM P W) k ∧ nth (gathM P W) k ≤ 9223372036854775807 := by omega
        have e3 : blkOf ap ≠ some g3 := fun e => ap3 g3 e rfl
        have e4 : blkOf ap ≠ some g4 := fun e => ap4 g4 e rfl
        go_wp2
        go_region_held3 (fun w' => w'.cell? ⟨g3, k, none⟩ = some (.int .i64 (nth (capM P W X) k)) ∧ w'.cell? ⟨g4, k, none⟩ = some (.int .i64 (nth (gathM P W) k)))
          (first
            | go_keep
            | (exact ⟨f2.keep hc3, f2.keep hc4⟩)
            | (go_split_ands
               refine ⟨?_, ?_⟩
               · (rw [q2.cell_far _ (by simp; omega) (Ne.symm e3)]; assumption)
               · (rw [q2.cell_far _ (by simp; omega) (Ne.symm e4)]; assumption)))
          (first
            | (go_at_call 123; refine (l2Cut_any _ _ _ ra rb).mono ?_; rintro e w2 ⟨rfl, f2⟩; have y2 : wr.heap.size ≤ w2.heap.size := f2.size)
            | (refine step_ap_pair _ rfl _ _ rfl w.heap.size ap k cc (envTo P W X k) (lowP (nth (capM P W X) k) (nth (gathM P W) k)) (lowQ (nth (capM P W X) k) (nth (gathM P W) k)) w2.heap.size (by rfl) (by rfl) (((oP.fr (Fr.drewN _ 1)).fr f2).fr ((Fr.refl _).alloc _)) (by simp; omega) (cell_of_row _ w2.heap.size 0 _ 46 (0, 0) (heap_alloc_new w2 _)) (cell_of_row _ w2.heap.size 1 _ 46 (0, 0) (heap_alloc_new w2 _)) (by omega) (w2.heap.size + 1) (by simp) ?_; intro g' c' w' q1 q2 q3))
        have fq : Fr wr w2 := (Fr.drewN _ 1).trans f2
        have oA2 := oA.fr fq
        have oS2 := oS.fr fq
        have oP2 := oP.fr fq
        have oA3 := (oA2.fr ((Fr.refl w2).alloc _)).grown q2 (.inr (by simpa [blkOf] using Ne.symm e3))
        have oS3 := (oS2.fr ((Fr.refl w2).alloc _)).grown q2 (.inr (by simpa [blkOf] using Ne.symm e4))
        have n3 : Apart (some ⟨g', 0, none⟩) (some ⟨g3, 0, none⟩) := by
          intro z h1 h2
          simp only [blkOf, Option.map_some, Option.some.injEq] at h1
          subst h1
          rcases q3 with h | h
          · exact ap3 _ h h2
          · have := (oA2.blk _ h2).2; omega
        have n4 : Apart (some ⟨g', 0, none⟩) (some ⟨g4, 0, none⟩) := by
          intro z h1 h2
          simp only [blkOf, Option.map_some, Option.some.injEq] at h1
          subst h1
          rcases q3 with h | h
          · exact ap4 _ h h2
          · have := (oS2.blk _ h2).2; omega
        have hF3 := ((hF.trans fq).alloc _).grown q2 (fun z hz => (oP2.blk z hz).1)
        go_wp2
        go_roundw
        case rel => exact ⟨k + 1, c', _, by omega, by go_num, rfl, by rw [HM.out, HQ.out]; exact q1, oA3, oS3, n3, n4, hF3⟩
        case measure => simp [intOf]; omega
      · obtain rfl : k = l := by omega
        have HM : Hid (envTo P W X k = envM P W X) := Lib.hid (by rw [envM, HP.out])
        rw [HM.out] at oP
        go_wp2
        go_ret2
        exact ⟨_, _, _, rfl, oP, hF, by omega⟩

def hvV (P W X : List Int) (x s u v : Int) : Int × Int := bif houseB P W X x s u v then envP P W X x.toNat else (0, 0)

set_option maxRecDepth 100000 in
theorem impl_HouseValue_any (w : World) (p q a : Option Addr) (n c m d l b : Nat) (P W X : List Int) (x s u v : Int) (hP : SL w p n c P) (hW : SL w q m d W) (hX : SL w a l b X) :
    Calls Try.prog 35 #[.agg #[.slice p n c, .slice q m d, .slice a l b, .int .i64 x, .int .i64 s, .int .i64 u, .int .i64 v]] w fun e w' => e = .returned (.tuple #[.agg #[.int .i64 (hvV P W X x s u v).1, .int .i64 (hvV P W X x s u v).2], .bool (houseB P W X x s u v)]) ∧ Fr w w' := by
  have HP := Lib.hid hP.len
  have hfr : Fr w ((w.alloc (.cells #[.slice p n c, .slice q m d, .slice a l b, .int .i64 x, .int .i64 s, .int .i64 u, .int .i64 v] 31)).alloc (.cells #[.int .i64 0, .int .i64 0] 46)) := ((Fr.refl w).alloc _).alloc _
  have hb0 := (Blk.new w #[.slice p n c, .slice q m d, .slice a l b, .int .i64 x, .int .i64 s, .int .i64 u, .int .i64 v] 31).alloc (.cells #[.int .i64 0, .int .i64 0] 46)
  have hb1 := Blk.new (w.alloc (.cells #[.slice p n c, .slice q m d, .slice a l b, .int .i64 x, .int .i64 s, .int .i64 u, .int .i64 v] 31)) #[.int .i64 0, .int .i64 0] 46
  rw [World.size_alloc] at hb1
  have H0 := Lib.hid hb0; have H1 := Lib.hid hb1
  clear hb0 hb1
  have c0 := H0.out.cell (j := 0) rfl; have c1 := H0.out.cell (j := 1) rfl; have c2 := H0.out.cell (j := 2) rfl; have c3 := H0.out.cell (j := 3) rfl; have c4 := H0.out.cell (j := 4) rfl; have c5 := H0.out.cell (j := 5) rfl; have c6 := H0.out.cell (j := 6) rfl
  go_enter Try.func35, Try.ntmps35
  go_wp2_with fail
  clear c0 c1 c2 c3 c4 c5 c6
  refine (impl_IsHouse_any _ _ _ _ _ _ _ _ _ _ _ _ _ (hP.fr hfr) (hW.fr hfr) (hX.fr hfr) _ _ _ _).mono ?_
  rintro e w1 ⟨rfl, f1⟩
  have hF1 := hfr.trans f1
  have G0 := Lib.hid (H0.out.fr f1); have G1 := Lib.hid (H1.out.fr f1)
  cases h : houseB P W X x s u v
  · have HB := Lib.hid h
    have HH : Hid (hvV P W X x s u v = (0, 0)) := Lib.hid (by rw [hvV, h]; rfl)
    have j0 := G1.out.cell (j := 0) rfl; have j1 := G1.out.cell (j := 1) rfl
    have i0 := G1.out.free 0; have i1 := G1.out.free 1
    go_wp2
    have E := (G1.out.set 0 (.int .i64 0)).set 1 (.int .i64 0)
    refine bodyPost_ret (results_FB Try.results35 _ _ (w.heap.size + 1) (.int .i64 0) (.int .i64 0) _ rfl rfl (E.cell rfl) (E.cell rfl)) rfl ?_
    refine ⟨by rw [HH.out, HB.out]; rfl, ?_⟩
    iterate 2 refine Fr.setCell ?_ (by dsimp only; omega) _
    exact hF1
  · have HB := Lib.hid h
    have HH : Hid (hvV P W X x s u v = envP P W X x.toNat) := Lib.hid (by rw [hvV, h]; rfl)
    obtain ⟨t1, t2, t3, t4⟩ := houseB_parts h
    have Ht := Lib.hid t1; have Hx := Lib.hid t2
    rw [HP.out] at t4
    obtain ⟨y, rfl⟩ := Int.eq_ofNat_of_zero_le t3
    have hn : n ≤ 24 := by have := (treeB_iff.1 t1).1.2; rw [HP.out] at this; exact this
    clear t1 t2 t3
    have c0 := G0.out.cell (j := 0) rfl; have c1 := G0.out.cell (j := 1) rfl; have c2 := G0.out.cell (j := 2) rfl
    go_wp2_with fail
    clear c0 c1 c2 h
    refine (impl_EnvelopeOf_yes _ _ _ _ _ _ _ _ _ _ _ _ _ (hP.fr hF1) (hW.fr hF1) (hX.fr hF1) Ht.out Hx.out).mono ?_
    rintro e w2 ⟨a2, n2, k2, rfl, o2, f2, _⟩
    have N2 : n2 = n := by rw [← o2.len, envM_len, HP.out]
    subst N2
    obtain ⟨g2, rfl, hg1, hg2, hcap, hc⟩ := o2.op (by omega)
    obtain ⟨e0, e1⟩ := hc y (by omega)
    rw [envM_nth (by rw [HP.out]; omega), Nat.mul_comm 2 y] at e0 e1
    have c3 := (G0.out.fr f2).cell (j := 3) rfl
    have J1 := Lib.hid (G1.out.fr f2)
    have j0 := J1.out.cell (j := 0) rfl; have j1 := J1.out.cell (j := 1) rfl
    have i0 := J1.out.free 0; have i1 := J1.out.free 1
    have hzz := hF1.size
    have E := (J1.out.set 0 (.int .i64 (envP P W X y).1)).set 1 (.int .i64 (envP P W X y).2)
    simp only [List.setIfInBounds_toArray, List.set_cons_zero, List.set_cons_succ] at E
    go_wp2
    refine bodyPost_ret (results_FB Try.results35 _ _ (w.heap.size + 1) (.int .i64 (envP P W X y).1) (.int .i64 (envP P W X y).2) _ rfl rfl (E.cell rfl) (E.cell rfl)) rfl ?_
    refine ⟨by rw [HH.out, HB.out]; rfl, ?_⟩
    iterate 2 refine Fr.setCell ?_ (by dsimp only; omega) _
    exact hF1.trans f2

set_option maxRecDepth 100000 in
theorem spec_HouseValue_any (w : World) (p q a : Option Addr) (n c m d l b : Nat) (P W X : List Int) (x s u v : Int) (hP : SL w p n c P) (hW : SL w q m d W) (hX : SL w a l b X) :
    Calls Try.prog 34 #[.agg #[.slice p n c, .slice q m d, .slice a l b, .int .i64 x, .int .i64 s, .int .i64 u, .int .i64 v]] w fun e w' => e = .returned (.tuple #[.agg #[.int .i64 (hvV P W X x s u v).1, .int .i64 (hvV P W X x s u v).2], .bool (houseB P W X x s u v)]) ∧ Fr w w' := by
  have HP := Lib.hid hP.len
  have hfr : Fr w ((w.alloc (.cells #[.slice p n c, .slice q m d, .slice a l b, .int .i64 x, .int .i64 s, .int .i64 u, .int .i64 v] 31)).alloc (.cells #[.int .i64 0, .int .i64 0] 46)) := ((Fr.refl w).alloc _).alloc _
  have hb0 := (Blk.new w #[.slice p n c, .slice q m d, .slice a l b, .int .i64 x, .int .i64 s, .int .i64 u, .int .i64 v] 31).alloc (.cells #[.int .i64 0, .int .i64 0] 46)
  have hb1 := Blk.new (w.alloc (.cells #[.slice p n c, .slice q m d, .slice a l b, .int .i64 x, .int .i64 s, .int .i64 u, .int .i64 v] 31)) #[.int .i64 0, .int .i64 0] 46
  rw [World.size_alloc] at hb1
  have H0 := Lib.hid hb0; have H1 := Lib.hid hb1
  clear hb0 hb1
  have c0 := H0.out.cell (j := 0) rfl; have c1 := H0.out.cell (j := 1) rfl; have c2 := H0.out.cell (j := 2) rfl; have c3 := H0.out.cell (j := 3) rfl; have c4 := H0.out.cell (j := 4) rfl; have c5 := H0.out.cell (j := 5) rfl; have c6 := H0.out.cell (j := 6) rfl
  go_enter Try.func34, Try.ntmps34
  go_wp2_with fail
  clear c0 c1 c2 c3 c4 c5 c6
  refine (l12Good_any _ _ _ _ _ _ _ _ _ _ _ _ _ (hP.fr hfr) (hW.fr hfr) (hX.fr hfr) _ _ _ _).mono ?_
  rintro e w1 ⟨rfl, f1⟩
  have hF1 := hfr.trans f1
  have G0 := Lib.hid (H0.out.fr f1); have G1 := Lib.hid (H1.out.fr f1)
  cases h : houseB P W X x s u v
  · have HB := Lib.hid h
    have HH : Hid (hvV P W X x s u v = (0, 0)) := Lib.hid (by rw [hvV, h]; rfl)
    have j0 := G1.out.cell (j := 0) rfl; have j1 := G1.out.cell (j := 1) rfl
    have i0 := G1.out.free 0; have i1 := G1.out.free 1
    go_wp2
    have E := (G1.out.set 0 (.int .i64 0)).set 1 (.int .i64 0)
    refine bodyPost_ret (results_FB Try.results34 _ _ (w.heap.size + 1) (.int .i64 0) (.int .i64 0) _ rfl rfl (E.cell rfl) (E.cell rfl)) rfl ?_
    refine ⟨by rw [HH.out, HB.out]; rfl, ?_⟩
    iterate 2 refine Fr.setCell ?_ (by dsimp only; omega) _
    exact hF1
  · have HB := Lib.hid h
    have HH : Hid (hvV P W X x s u v = envP P W X x.toNat) := Lib.hid (by rw [hvV, h]; rfl)
    obtain ⟨t1, t2, t3, t4⟩ := houseB_parts h
    have Ht := Lib.hid t1; have Hx := Lib.hid t2
    rw [HP.out] at t4
    obtain ⟨y, rfl⟩ := Int.eq_ofNat_of_zero_le t3
    have hn : n ≤ 24 := by have := (treeB_iff.1 t1).1.2; rw [HP.out] at this; exact this
    clear t1 t2 t3
    have c0 := G0.out.cell (j := 0) rfl; have c1 := G0.out.cell (j := 1) rfl; have c2 := G0.out.cell (j := 2) rfl
    go_wp2_with fail
    clear c0 c1 c2 h
    refine (spec_EnvelopeOf_yes _ _ _ _ _ _ _ _ _ _ _ _ _ (hP.fr hF1) (hW.fr hF1) (hX.fr hF1) Ht.out Hx.out).mono ?_
    rintro e w2 ⟨a2, n2, k2, rfl, o2, f2, _⟩
    have N2 : n2 = n := by rw [← o2.len, envM_len, HP.out]
    subst N2
    obtain ⟨g2, rfl, hg1, hg2, hcap, hc⟩ := o2.op (by omega)
    obtain ⟨e0, e1⟩ := hc y (by omega)
    rw [envM_nth (by rw [HP.out]; omega), Nat.mul_comm 2 y] at e0 e1
    have c3 := (G0.out.fr f2).cell (j := 3) rfl
    have J1 := Lib.hid (G1.out.fr f2)
    have j0 := J1.out.cell (j := 0) rfl; have j1 := J1.out.cell (j := 1) rfl
    have i0 := J1.out.free 0; have i1 := J1.out.free 1
    have hzz := hF1.size
    have E := (J1.out.set 0 (.int .i64 (envP P W X y).1)).set 1 (.int .i64 (envP P W X y).2)
    simp only [List.setIfInBounds_toArray, List.set_cons_zero, List.set_cons_succ] at E
    go_wp2
    refine bodyPost_ret (results_FB Try.results34 _ _ (w.heap.size + 1) (.int .i64 (envP P W X y).1) (.int .i64 (envP P W X y).2) _ rfl rfl (E.cell rfl) (E.cell rfl)) rfl ?_
    refine ⟨by rw [HH.out, HB.out]; rfl, ?_⟩
    iterate 2 refine Fr.setCell ?_ (by dsimp only; omega) _
    exact hF1.trans f2

end Go.Proofs.Ytojipjjfndgbhaa
/- Drifts, fair processes. Plain part. -/
set_option linter.unusedVariables false
namespace Go.Proofs.Ytojipjjfndgbhaa
open Go.ChangeShapes Go.WideShapes Go.ChangeAt Go.RowKit
/-- A quotient in lowest terms, and what it was. -/
theorem low_mul {a b : Int} (ha : -1000000000 ≤ a ∧ a ≤ 1000000000) (hb : 0 < b ∧ b ≤ 1000000) : ∃ g : Int, 1 ≤ g ∧ lowA a b * g = a ∧ lowB a b * g = b := by
  have h := lowP_eq (lowOk_fit ha hb)
  have hg := gcd_pos (a := a) hb.1
  refine ⟨(Int.gcd a b : Nat), hg.1, ?_, ?_⟩
  · rw [h.1, lowP]; exact Int.tdiv_mul_cancel (Int.gcd_dvd_left a b)
  · rw [h.2, lowQ]; exact Int.tdiv_mul_cancel (Int.gcd_dvd_right a b)
theorem low_zero {a b : Int} (ha : -1000000000 ≤ a ∧ a ≤ 1000000000) (hb : 0 < b ∧ b ≤ 1000000) : lowA a b = 0 ↔ a = 0 := by
  obtain ⟨g, hg, h1, _⟩ := low_mul ha hb
  constructor
  · intro h; rw [h] at h1; simpa using h1.symm
  · intro h
    rw [h] at h1
    rcases Int.mul_eq_zero.1 h1 with h | h
    · rw [← h]; congr 1
    · omega
theorem low_posA {a b : Int} (ha : -1000000000 ≤ a ∧ a ≤ 1000000000) (hb : 0 < b ∧ b ≤ 1000000) : 0 < lowA a b ↔ 0 < a := by
  obtain ⟨g, hg, h1, _⟩ := low_mul ha hb
  constructor
  · intro h; rw [← h1]; exact Int.mul_pos h (by omega)
  · intro h
    rcases Int.lt_trichotomy (lowA a b) 0 with h2 | h2 | h2
    · have := Int.mul_neg_of_neg_of_pos h2 (show 0 < g by omega); omega
    · rw [h2] at h1; omega
    · exact h2
/-- Two quotients compare as their products do. -/
theorem low_cross {a b : Int} (ha : -1000000000 ≤ a ∧ a ≤ 1000000000) (hb : 0 < b ∧ b ≤ 1000000) : lowA a b * b = a * lowB a b ∧ 0 < lowB a b := by
  obtain ⟨g, hg, h1, h2⟩ := low_mul ha hb
  refine ⟨?_, ?_⟩
  · calc lowA a b * b = lowA a b * (lowB a b * g) := by rw [h2]
      _ = (lowA a b * g) * lowB a b := by rw [Int.mul_comm (lowB a b) g, Int.mul_assoc]
      _ = a * lowB a b := by rw [h1]
  · rcases Int.lt_trichotomy (lowB a b) 0 with h | h | h
    · have := Int.mul_neg_of_neg_of_pos h (show 0 < g by omega); omega
    · rw [h] at h2; omega
    · exact h
/-- The drift at a node, times its sum. -/
def drA (P W X : List Int) (x : Nat) : Int := kidUp P (fun y => nth (gathM P W) y * (nth X y - nth X x)) x P.length
def drP (P W X : List Int) (x : Nat) : Int × Int := (lowA (drA P W X x) (nth (gathM P W) x), lowB (drA P W X x) (nth (gathM P W) x))
def drTo (P W X : List Int) (k : Nat) : List (Int × Int) := (List.range k).map (drP P W X)
def drM (P W X : List Int) : List (Int × Int) := drTo P W X P.length
theorem drTo_succ (P W X : List Int) (k : Nat) : drTo P W X (k + 1) = drTo P W X k ++ [drP P W X k] := by simp [drTo, List.range_succ]
theorem drM_nth {P W X : List Int} {i : Nat} (h : i < P.length) : nthP (drM P W X) i = drP P W X i := by simp [nthP, drM, drTo, h]
theorem drM_len (P W X : List Int) : (drM P W X).length = P.length := by simp [drM, drTo]
def drF (P W X : List Int) (x y : Nat) : Int := nth (gathM P W) y * (nth X y - nth X x)
theorem drF_bd {P W X : List Int} (ht : treeB P W = true) (hX : ∀ i, -999 ≤ nth X i ∧ nth X i ≤ 999) (x y : Nat) : -959040 ≤ drF P W X x y ∧ drF P W X x y ≤ 959040 := by
  have h1 := sums_le ht y
  have h2 := hX x; have h3 := hX y
  have h4 := natAbs_mul_le (x := nth (gathM P W) y) (y := nth X y - nth X x) (M := 480) (N := 1998) h1 (by omega)
  unfold drF; omega
theorem drA_kids (P W X : List Int) (x : Nat) : lsum (drF P W X x) (kidsTo P x P.length) = drA P W X x := by rw [lsum_kids]; rfl
theorem kids_bd {P W X : List Int} (ht : treeB P W = true) (hX : ∀ i, -999 ≤ nth X i ∧ nth X i ≤ 999) (x : Nat) (L : List Int) (hL : L.length ≤ 24) : -24000000 ≤ lsum (drF P W X x) L ∧ lsum (drF P W X x) L ≤ 24000000 := by
  have := lsum_bd (drF_bd ht hX x) L
  omega
theorem drA_bd {P W X : List Int} (ht : treeB P W = true) (hX : ∀ i, -999 ≤ nth X i ∧ nth X i ≤ 999) (x : Nat) : -24000000 ≤ drA P W X x ∧ drA P W X x ≤ 24000000 := by
  rw [← drA_kids]
  exact kids_bd ht hX x _ (by have := kidsTo_len P x P.length; have := (treeB_iff.1 ht).1; omega)
def flatB (P W X : List Int) : Bool := (List.range P.length).all fun x => drA P W X x == 0
def fallB (P W X : List Int) : Bool := (List.range P.length).all fun x => decide (drA P W X x ≤ 0)
theorem flatB_iff {P W X : List Int} : flatB P W X = true ↔ ∀ x, x < P.length → drA P W X x = 0 := by simp [flatB]
theorem fallB_iff {P W X : List Int} : fallB P W X = true ↔ ∀ x, x < P.length → drA P W X x ≤ 0 := by simp [fallB]
theorem flatB_no {P W X : List Int} {x : Nat} (hx : x < P.length) (h : drA P W X x ≠ 0) : flatB P W X = false := by
  rw [Bool.eq_false_iff]; intro e; exact h (flatB_iff.1 e x hx)
theorem fallB_no {P W X : List Int} {x : Nat} (hx : x < P.length) (h : 0 < drA P W X x) : fallB P W X = false := by
  rw [Bool.eq_false_iff]; intro e; have := fallB_iff.1 e x hx; omega
def flatV (P W X : List Int) : Bool := l3B P W X && flatB P W X
def fallV (P W X : List Int) : Bool := l3B P W X && fallB P W X
theorem kidUp_lin (P : List Int) (A X : Nat → Int) (c : Int) (z : Nat) : ∀ k, kidUp P (fun y => A y * (X y - c)) z k = kidUp P (fun y => A y * X y) z k - c * kidUp P A z k
  | 0 => by simp [kidUp]
  | k + 1 => by
    rw [kidUp, kidUp, kidUp, kidUp_lin P A X c z k]
    split
    · rw [Int.mul_sub, Int.mul_add, Int.mul_comm (A k) c]; omega
    · rw [Int.mul_add]; omega
theorem kidUp_end {P : List Int} {F : Nat → Int} {z : Nat} : ∀ k, endTo P z k = true → kidUp P F z k = 0
  | 0, _ => rfl
  | k + 1, h => by
    rw [endTo_iff] at h
    rw [kidUp, kidUp_end k (endTo_iff.2 fun y hy => h y (by omega)), if_neg (h k (by omega))]; rfl
theorem gath_up {P a : List Int} (hp : parB P = true) (hl : a.length = P.length) (z : Nat) (hz : z < P.length) : nth (gathM P a) z = nth a z + kidUp P (nth (gathM P a)) z P.length := by
  rw [kidUp_sum hp (by omega)]; exact gath_rec hp hl z hz
/-- Products of sums and numbers. -/
def prodF (P W X : List Int) (y : Nat) : Int := nth (gathM P W) y * nth X y
theorem drA_eq {P W X : List Int} (ht : treeB P W = true) {x : Nat} (hx : x < P.length) : drA P W X x = if endB P x = true then 0 else kidUp P (prodF P W X) x P.length - prodF P W X x := by
  obtain ⟨h1, h2, h3, h4⟩ := treeB_iff.1 ht
  by_cases he : endB P x = true
  · rw [if_pos he, drA, kidUp_end _ he]
  · rw [if_neg he, drA, kidUp_lin P (nth (gathM P W)) (nth X)]
    have hg := gath_up (a := W) h3 h2 x hx
    have hw : nth W x = 0 := by
      have := wei_end ht hx
      rw [Bool.not_eq_true] at he
      rw [he] at this
      simpa using this.symm
    rw [hw, Int.zero_add] at hg
    rw [← hg, prodF, Int.mul_comm (nth X x)]; rfl
theorem flat_iff {P W X : List Int} (ht : treeB P W = true) : flatB P W X = true ↔ ∀ x, x < P.length → endB P x = false → prodF P W X x = kidUp P (prodF P W X) x P.length := by
  rw [flatB_iff]
  constructor
  · intro h x hx he
    have := h x hx
    rw [drA_eq ht hx, if_neg (by rw [he]; simp)] at this
    omega
  · intro h x hx
    rw [drA_eq ht hx]
    by_cases he : endB P x = true
    · rw [if_pos he]
    · rw [if_neg he]; have := h x hx (by simpa using he); omega
theorem prodF_bd {P W X : List Int} (ht : treeB P W = true) (hX : ∀ i, -999 ≤ nth X i ∧ nth X i ≤ 999) (y : Nat) : -479520 ≤ prodF P W X y ∧ prodF P W X y ≤ 479520 := by
  have h1 := sums_le ht y
  have h3 := hX y
  have h4 := natAbs_mul_le (x := nth (gathM P W) y) (y := nth X y) (M := 480) (N := 999) h1 (by omega)
  unfold prodF; omega
/-- A balanced list of numbers of at least 0. -/
def posB (X : List Int) : Bool := allB X 0 999
def evenB (P W X : List Int) : Bool := flatV P W X && posB X
theorem evenB_parts {P W X : List Int} (h : evenB P W X = true) : treeB P W = true ∧ procB P X = true ∧ flatB P W X = true ∧ ∀ i, 0 ≤ nth X i ∧ nth X i ≤ 999 := by
  simp only [evenB, flatV, l3B, Bool.and_eq_true] at h
  obtain ⟨⟨⟨h1, h2⟩, h3⟩, h4⟩ := h
  refine ⟨h1, h2, h3, fun i => ?_⟩
  refine nth_bd (fun x hx => ?_) (by omega) (by omega) i
  have := List.all_eq_true.1 h4 x hx
  simpa [inB] using this
end Go.Proofs.Ytojipjjfndgbhaa
/- Greatest numbers on ways to ends, and sums over ends. Plain part. -/
set_option linter.unusedVariables false
namespace Go.Proofs.Ytojipjjfndgbhaa
open Go.ChangeShapes Go.WideShapes Go.ChangeAt Go.RowKit
/-- Numbers of the ends. -/
def enTo (P : List Int) (F : Nat → Int) (k : Nat) : List Int := (List.range k).map fun i => F (nth (endsM P) i).toNat
def enM (P : List Int) (F : Nat → Int) : List Int := enTo P F (endsM P).length
theorem enTo_len (P : List Int) (F : Nat → Int) (k : Nat) : (enTo P F k).length = k := by simp [enTo]
theorem enTo_succ (P : List Int) (F : Nat → Int) (k : Nat) : enTo P F (k + 1) = enTo P F k ++ [F (nth (endsM P) k).toNat] := by simp [enTo, List.range_succ]
theorem enTo_nth {P : List Int} {F : Nat → Int} {k i : Nat} (h : i < k) : nth (enTo P F k) i = F (nth (endsM P) i).toNat := by simp [nth, enTo, h]
theorem en_bd {P : List Int} {F : Nat → Int} {lo hi : Int} (h : ∀ x, x < P.length → lo ≤ F x ∧ F x ≤ hi) (h0 : lo ≤ 0 ∧ 0 ≤ hi) {k : Nat} (hk : k ≤ (endsM P).length) (i : Nat) : lo ≤ nth (enTo P F k) i ∧ nth (enTo P F k) i ≤ hi := by
  by_cases hi : i < k
  · rw [enTo_nth hi]
    obtain ⟨y, hy, hl, _⟩ := ends_nth (P := P) (i := i) (by omega)
    rw [hy, Int.toNat_natCast]; exact h y hl
  · rw [nth_out (by rw [enTo_len]; omega)]; exact h0
theorem pv_en (P X : List Int) : pvM P X = enM P (nth X) := rfl
/-- The numbers of the ends at their nodes, times their weights. -/
def enA (P W : List Int) (F : Nat → Int) (x : Nat) : Int := if endB P x = true then F x * nth W x else 0
theorem spread_hit {P W : List Int} {F : Nat → Int} {x : Nat} (hx : x < P.length) : ∀ i, i ≤ (endsM P).length → (∃ j, j < i ∧ nth (endsM P) j = (x : Int)) → nth (spreadTo P W (enM P F) i) x = F x * nth W x
  | 0, _, h => by obtain ⟨j, hj, _⟩ := h; omega
  | i + 1, hi, h => by
    rw [spreadTo]
    have hl := spreadTo_len P W (enM P F) i
    by_cases e : nth (endsM P) i = (x : Int)
    · rw [e, Int.toNat_natCast, nth_set_same (by omega), enM, enTo_nth (by omega), e, Int.toNat_natCast]
    · obtain ⟨y, hy, _⟩ := ends_nth (P := P) (i := i) (by omega)
      rw [hy] at e ⊢
      rw [Int.toNat_natCast, nth_set_ne (by omega)]
      refine spread_hit hx i (by omega) ?_
      obtain ⟨j, hj, h2⟩ := h
      by_cases e2 : j = i
      · subst e2; rw [hy] at h2; exact absurd h2 e
      · exact ⟨j, by omega, h2⟩
theorem spread_miss {P W : List Int} {F : Nat → Int} {x : Nat} : ∀ i, i ≤ (endsM P).length → (∀ j, j < i → nth (endsM P) j ≠ (x : Int)) → nth (spreadTo P W (enM P F) i) x = 0
  | 0, _, _ => by
    rw [spreadTo]; unfold nth; rw [List.getElem?_replicate]; split <;> rfl
  | i + 1, hi, h => by
    rw [spreadTo]
    obtain ⟨y, hy, _⟩ := ends_nth (P := P) (i := i) (by omega)
    have e := h i (by omega)
    rw [hy] at e ⊢
    rw [Int.toNat_natCast, nth_set_ne (by omega)]
    exact spread_miss i (by omega) (fun j hj => h j (by omega))
theorem ends_has {P : List Int} {x : Nat} (hx : x < P.length) (he : endB P x = true) : ∃ j, j < (endsM P).length ∧ nth (endsM P) j = (x : Int) := by
  have hm : (x : Int) ∈ endsM P := by
    simp only [endsM, endsTo, List.mem_map, List.mem_filter, List.mem_range]
    exact ⟨x, ⟨hx, he⟩, rfl⟩
  obtain ⟨j, hj, h⟩ := List.getElem_of_mem hm
  exact ⟨j, hj, by rw [nth_eq hj]; exact h⟩
theorem spread_en {P W : List Int} {F : Nat → Int} {x : Nat} (hx : x < P.length) : nth (spreadM P W (enM P F)) x = enA P W F x := by
  unfold enA
  by_cases he : endB P x = true
  · rw [if_pos he]; exact spread_hit hx _ (Nat.le_refl _) (ends_has hx he)
  · rw [if_neg he]
    refine spread_miss _ (Nat.le_refl _) fun j hj e => ?_
    obtain ⟨y, hy, _, h2⟩ := ends_nth hj
    rw [hy] at e
    obtain rfl : y = x := by omega
    exact he h2
/-- What the totals are. -/
theorem tot_up {P W : List Int} {F : Nat → Int} (hp : parB P = true) {z : Nat} (hz : z < P.length) : nth (totalsM P W (enM P F)) z = enA P W F z + kidUp P (nth (totalsM P W (enM P F))) z P.length := by
  have := gath_up (a := spreadM P W (enM P F)) hp (spreadTo_len _ _ _ _) z hz
  rw [spread_en hz] at this
  exact this
theorem sumTo_setd (xs : List Int) (i : Nat) (v : Int) (hi : i < xs.length) : ∀ k, sumTo (xs.set i v) k = sumTo xs k + (if i < k then v - nth xs i else 0)
  | 0 => by simp [sumTo]
  | k + 1 => by
    rw [sumTo, sumTo, sumTo_setd xs i v hi k]
    by_cases e : i = k
    · subst e; rw [nth_set_same hi, if_neg (by omega), if_pos (by omega)]; omega
    · rw [nth_set_ne e]
      by_cases h : i < k
      · rw [if_pos h, if_pos (by omega)]; omega
      · rw [if_neg h, if_neg (by omega)]; omega
theorem gath_sum {P a : List Int} (hp : parB P = true) (hl : a.length = P.length) : ∀ j, j + 1 ≤ P.length → sumTo (gathTo P a j) (P.length - j) = sumTo a P.length
  | 0, _ => rfl
  | j + 1, hj => by
    have ih := gath_sum hp hl j (by omega)
    obtain ⟨x, hx⟩ : ∃ x, x = P.length - 1 - j := ⟨_, rfl⟩
    have h1 := par_toNat hp (x := x) (by omega) (by omega)
    have hln := gathTo_len P a j
    rw [gathTo, gathS, ← hx, show P.length - (j + 1) = x by omega, sumTo_setd _ _ _ (by omega), if_pos h1.2]
    rw [show P.length - j = x + 1 by omega, sumTo] at ih
    omega
theorem root_sum {P a : List Int} (hp : parB P = true) (hl : a.length = P.length) (hn : 1 ≤ P.length) : nth (gathM P a) 0 = sumTo a P.length := by
  have h := gath_sum hp hl (P.length - 1) (by omega)
  rw [show P.length - (P.length - 1) = 0 + 1 by omega, sumTo, sumTo] at h
  rw [gathM]; omega
/-- The sum over the first k of a list of nodes. -/
def seTo (G : Nat → Int) (L : List Int) : Nat → Int
  | 0 => 0
  | k + 1 => seTo G L k + G (nth L k).toNat
theorem seTo_app (G : Nat → Int) (L M : List Int) : ∀ k, k ≤ L.length → seTo G (L ++ M) k = seTo G L k
  | 0, _ => rfl
  | k + 1, h => by
    rw [seTo, seTo, seTo_app G L M k (by omega)]
    congr 3
    unfold nth
    rw [List.getElem?_append_left (by omega)]
theorem se_ends {P : List Int} {G : Nat → Int} {a : List Int} : ∀ k, (∀ x, x < k → nth a x = if endB P x = true then G x else 0) → seTo G (endsTo P k) (endsTo P k).length = sumTo a k
  | 0, _ => rfl
  | k + 1, h => by
    have ih := se_ends k (fun x hx => h x (by omega))
    have hk := h k (by omega)
    rw [endsTo_succ, sumTo, hk, ← ih]
    by_cases e : endB P k = true
    · rw [if_pos e, if_pos e, List.length_append, List.length_singleton, seTo, seTo_app _ _ _ _ (Nat.le_refl _)]
      congr 2
      simp [nth]
    · rw [if_neg e, if_neg e]; omega
theorem tot_root {P W : List Int} {F : Nat → Int} (hp : parB P = true) (hn : 1 ≤ P.length) : nth (totalsM P W (enM P F)) 0 = seTo (fun x => F x * nth W x) (endsM P) (endsM P).length := by
  rw [totalsM, root_sum (a := spreadM P W (enM P F)) hp (spreadTo_len _ _ _ _) hn, endsM]
  refine (se_ends P.length fun x hx => ?_).symm
  rw [spread_en hx]; rfl
theorem se_bd {G : Nat → Int} {L : List Int} {lo hi : Int} (h : ∀ i, i < L.length → lo ≤ G (nth L i).toNat ∧ G (nth L i).toNat ≤ hi) : ∀ k : Nat, k ≤ L.length → lo * k ≤ seTo G L k ∧ seTo G L k ≤ hi * k
  | 0, _ => by simp [seTo]
  | k + 1, hk => by
    have ih := se_bd h k (by omega)
    have := h k (by omega)
    have e1 : lo * ((k + 1 : Nat) : Int) = lo * k + lo := by rw [Int.natCast_add, Int.mul_add]; simp
    have e2 : hi * ((k + 1 : Nat) : Int) = hi * k + hi := by rw [Int.natCast_add, Int.mul_add]; simp
    rw [seTo]; omega
/-- The greatest numbers on the ways to the ends. -/
def pkM (P X : List Int) : List Int := enM P (topM P X)
/-- Whether a number of at least a level stands on the way. -/
def chF (P X : List Int) (v : Int) (x : Nat) : Int := if v ≤ topM P X x then 1 else 0
theorem chF_bd (P X : List Int) (v : Int) (x : Nat) : 0 ≤ chF P X v x ∧ chF P X v x ≤ 1 := by unfold chF; split <;> omega
def lmS (P W X : List Int) : Int := nth (totalsM P W (pkM P X)) 0
def lcS (P W X : List Int) (v : Int) : Int := nth (totalsM P W (enM P (chF P X v))) 0
def lmV (P W X : List Int) : Int × Int := bif evenB P W X then (lowA (lmS P W X) (nth (gathM P W) 0), lowB (lmS P W X) (nth (gathM P W) 0)) else (0, 0)
def lcB (P W X : List Int) (v : Int) : Bool := evenB P W X && inB v 1 999
def lcV (P W X : List Int) (v : Int) : Int × Int := bif lcB P W X v then (lowA (lcS P W X v) (nth (gathM P W) 0), lowB (lcS P W X v) (nth (gathM P W) 0)) else (0, 0)
theorem top_bd {P W X : List Int} (ht : treeB P W = true) (hX : ∀ i, -999 ≤ nth X i ∧ nth X i ≤ 999) {x : Nat} (hx : x < P.length) : -999 ≤ topM P X x ∧ topM P X x ≤ 999 := by
  have := topM_bd (treeB_iff.1 ht).2.2.1 hX x x (Nat.le_refl _) hx
  omega
theorem top_nn {P W X : List Int} (ht : treeB P W = true) (hX : ∀ i, 0 ≤ nth X i ∧ nth X i ≤ 999) {x : Nat} (hx : x < P.length) : 0 ≤ topM P X x ∧ topM P X x ≤ 999 := by
  have := topM_bd (treeB_iff.1 ht).2.2.1 hX x x (Nat.le_refl _) hx
  omega
theorem pk_bd {P W X : List Int} (ht : treeB P W = true) (hX : ∀ i, -999 ≤ nth X i ∧ nth X i ≤ 999) (i : Nat) : -999 ≤ nth (pkM P X) i ∧ nth (pkM P X) i ≤ 999 :=
  en_bd (fun x hx => top_bd ht hX hx) (by omega) (Nat.le_refl _) i
end Go.Proofs.Ytojipjjfndgbhaa
