import Derived.Test.YtojipjjfndgbhaaEnv
/- Contracts of the reference: payments, sums over children, caps. -/
set_option linter.unusedVariables false
namespace Go.Proofs.Ytojipjjfndgbhaa
open Go.ChangeShapes Go.WideShapes Go.ChangeAt Go.RowKit

theorem l4Pays_any (w : World) (p q a : Option Addr) (n c m d l k : Nat) (P W X : List Int) (hP : SL w p n c P) (hW : SL w q m d W) (hX : SL w a l k X) :
    Calls Try.prog 120 #[.agg #[.slice p n c, .slice q m d], .slice a l k] w fun e w' => e = .returned (.bool (l3B P W X)) ∧ Fr w w' := by
  have HP := Lib.hid hP.len; have HX := Lib.hid hX.len
  have hn : n ≤ 9223372036854775807 := by have := hP.le; have := hP.mx; omega
  have hl : l ≤ 9223372036854775807 := by have := hX.le; have := hX.mx; omega
  have hfr : Fr w (w.alloc (.cells #[.slice p n c, .slice q m d] 29)) := (Fr.refl w).alloc _
  go_enter Try.func120, Try.ntmps120
  go_wp2
  go_loop [5] (fun i => ∃ j : Nat, j ≤ l ∧ i = .int .i64 j ∧ Hid (allB (X.take j) (-999) 999 = true)) (fun i => l - (intOf i).toNat)
  case atStart => exact ⟨0, Nat.zero_le _, rfl, Lib.hid rfl⟩
  case round =>
    obtain ⟨j, hj, rfl, ha⟩ := hrel
    by_cases hlt : j < l
    · obtain ⟨b, off, rfl, hc⟩ := (hX.fr hfr).cells.resolve_left (by omega)
      replace hc := hc j hlt
      have hks : j < X.length := by rw [HX.out]; exact hlt
      have HS := Lib.hid (allB_snoc X (-999) 999 j hks)
      have HKS := Lib.hid hks
      clear hks
      cases hb : inB (nth X j) (-999) 999
      · have HV : Hid (l3B P W X = false) := Lib.hid (by rw [l3B, procB, allB_no HKS.out hb]; simp)
        go_wp2_with (go_at_call 88; refine (l1In_any _ _ _ _).mono ?_; rintro e w' ⟨rfl, rfl⟩)
        go_ret
        exact ⟨by rw [HV.out]; rfl, hfr⟩
      · have HB := Lib.hid hb
        go_wp2_with (go_at_call 88; refine (l1In_any _ _ _ _).mono ?_; rintro e w' ⟨rfl, rfl⟩)
        go_round
        case rel => exact ⟨j + 1, by omega, by go_num, Lib.hid (by rw [HS.out, ha.out, HB.out]; rfl)⟩
        case measure => simp [intOf]; omega
    · obtain rfl : j = l := by omega
      have HA : Hid (allB X (-999) 999 = true) := Lib.hid (by rw [← List.take_of_length_le (l := X) (i := j) (by rw [HX.out]; omega)]; exact ha.out)
      go_wp2_with fail
      refine (l2Good_any _ _ _ _ _ _ _ _ _ (hP.fr hfr) (hW.fr hfr)).mono ?_
      rintro e w1 ⟨rfl, f1⟩
      have hbox := f1.newCell (j := 0) (v := .slice p n c) rfl
      have HV : Hid (l3B P W X = (treeB P W && (j == n))) := Lib.hid (by rw [l3B, procB, HA.out, HP.out, HX.out, Bool.and_true])
      cases ht : treeB P W
      · have HV2 : Hid (l3B P W X = false) := Lib.hid (by rw [HV.out, ht]; rfl)
        go_wp2
        go_ret
        exact ⟨by rw [HV2.out]; rfl, hfr.trans f1⟩
      · have HV2 : Hid (l3B P W X = ((j : Int) == (n : Int))) := Lib.hid (by rw [HV.out, ht, beq_nat]; rfl)
        go_wp2
        go_ret
        exact ⟨by rw [HV2.out]; rfl, hfr.trans f1⟩

theorem l4Kids_any (w : World) (p q a : Option Addr) (n c m d l b : Nat) (P W L : List Int) (x : Nat) (hP : SL w p n c P) (hL : SL w a l b L) (hp : parB P = true) (hn : n ≤ 24) (hl : l = n) (hx : x < n) (hv : ∀ i, -479520 ≤ nth L i ∧ nth L i ≤ 479520) :
    Calls Try.prog 141 #[.agg #[.slice p n c, .slice q m d], .slice a l b, .int .i64 x] w fun e w' => e = .returned (.int .i64 (kidUp P (nth L) x n)) ∧ Fr w w' := by
  subst hl
  have HP := Lib.hid hP.len
  have Hv := Lib.hid hv
  have hfr : Fr w (w.alloc (.cells #[.slice p l c, .slice q m d] 29)) := (Fr.refl w).alloc _
  have H0 := Lib.hid (Blk.new w #[.slice p l c, .slice q m d] 29)
  have c0 := H0.out.cell (j := 0) rfl; have c1 := H0.out.cell (j := 1) rfl
  clear hv
  go_enter Try.func141, Try.ntmps141
  go_wp2_with fail
  clear c0 c1
  refine (l2Kids_any _ _ _ _ _ _ _ x _ (hP.fr hfr) hp (by omega) hx).mono ?_
  rintro e w1 ⟨a2, n2, c2, rfl, o2, f2, _⟩
  have hF := hfr.trans f2
  have Hn2 := Lib.hid o2.len
  have hn2 : n2 ≤ 24 := by have := kidsTo_len P x l; have := Hn2.out; omega
  have hL1 := hL.fr hF
  have HU : Hid (lsum (nth L) (kidsTo P x l) = kidUp P (nth L) x l) := Lib.hid (lsum_kids _ _ _ _)
  have hb : Hid (∀ i, i ≤ n2 → -(479520 * (i : Int)) ≤ lsum (nth L) ((kidsTo P x l).take i) ∧ lsum (nth L) ((kidsTo P x l).take i) ≤ 479520 * (i : Int)) := Lib.hid (fun i hi => by
    have h := lsum_bd (M := 479520) Hv.out ((kidsTo P x l).take i)
    rw [List.length_take, Nat.min_eq_left (by rw [Hn2.out]; exact hi)] at h; exact h)
  have he := o2.sl
  clear o2 hp
  go_wp2
  go_loop [7, 9] (fun s i => ∃ k : Nat, k ≤ n2 ∧ i = .int .i64 k ∧ s = .int .i64 (lsum (nth L) ((kidsTo P x l).take k))) (fun _ i => n2 - (intOf i).toNat)
  case atStart => exact ⟨0, by omega, rfl, by rw [lsum_zero]⟩
  case round =>
    obtain ⟨k, hk, rfl, rfl⟩ := hrel
    by_cases hlt : k < n2
    · obtain ⟨y, hy, hyl, _⟩ := kids_nth (P := P) (x := x) (k := l) (i := k) (by rw [Hn2.out]; exact hlt)
      obtain ⟨b2, of2, rfl, hce⟩ := he.cells.resolve_left (by omega)
      replace hce := hce k hlt
      have HS : Hid (lsum (nth L) ((kidsTo P x l).take (k + 1)) = lsum (nth L) ((kidsTo P x l).take k) + nth L y) := Lib.hid (by rw [lsum_take (by rw [Hn2.out]; exact hlt), hy, Int.toNat_natCast])
      rw [hy] at hce
      clear hy
      obtain ⟨bl, ol, rfl, hcl⟩ := hL1.cells.resolve_left (by omega)
      replace hcl := hcl y hyl
      have b1 := hb.out k hk
      have b2' := Hv.out y
      go_wp2
      go_round
      case rel => exact ⟨k + 1, by omega, by go_num, by rw [HS.out]⟩
      case measure => simp [intOf]; omega
    · obtain rfl : k = n2 := by omega
      go_wp2
      go_ret
      exact ⟨ret_int (by rw [List.take_of_length_le (by rw [Hn2.out]; omega), HU.out]), hF⟩

set_option maxRecDepth 100000 in
set_option maxHeartbeats 1000000 in
theorem l4Caps_any (w : World) (p q a : Option Addr) (n c m d l b : Nat) (P W X : List Int) (hP : SL w p n c P) (hW : SL w q m d W) (hX : SL w a l b X) (ht : treeB P W = true) (hl : l = n) (hv : ∀ i, -999 ≤ nth X i ∧ nth X i ≤ 999) :
    Calls Try.prog 121 #[.agg #[.slice p n c, .slice q m d], .slice a l b] w (RetS (capM P W X) w) := by
  subst hl
  have HP := Lib.hid hP.len
  have HW := Lib.hid hW.len
  have Hv := Lib.hid hv
  have Ht := Lib.hid ht
  obtain ⟨t1, t2, t3, _⟩ := treeB_iff.1 ht
  have Hp := Lib.hid t3
  rw [HP.out] at t1
  have hml : m = l := by rw [← HW.out, t2, HP.out]
  subst hml
  have N2 : Hid ((gathM P W).length = m) := Lib.hid (by rw [gathM, gathTo_len, t2, HP.out])
  clear t2 t3 ht hv
  have hmk := fun w => run_make_row' 22 3 (.int .i64 0) 8 Try.underlying22 infoInt rfl .i64 .i64 m (by omega) (by omega) w
  have hfr : Fr w (w.alloc (.cells #[.slice p m c, .slice q m d] 29)) := (Fr.refl w).alloc _
  have H0 := Lib.hid (Blk.new w #[.slice p m c, .slice q m d] 29)
  go_enter Try.func121, Try.ntmps121
  go_upto_region 1 with fail
  generalize hw1 : w.alloc (.cells #[.slice p m c, .slice q m d] 29) = w1 at hfr H0 ⊢
  have z1 : w1.heap.size = w.heap.size + 1 := by rw [← hw1]; simp
  have Z1 := Lib.hid z1
  clear hw1 z1
  have hP1 := hP.fr hfr
  have hW1 := hW.fr hfr
  have c0 := H0.out.cell (j := 0) rfl
  have c1 := H0.out.cell (j := 1) rfl
  go_cut [5, 6] (fun s5 s6 wx => ∃ (g : Nat) (a2 : Option Addr) (n2 k2 : Nat), s5 = .slice (some ⟨g, 0, none⟩) m m ∧ s6 = .slice a2 n2 k2 ∧
    Own w1.heap.size wx (some ⟨g, 0, none⟩) m m (List.replicate m 0) ∧ Own w1.heap.size wx a2 n2 k2 (gathM P W) ∧ Apart (some ⟨g, 0, none⟩) a2 ∧ Fr w1 wx)
  case first =>
    go_region_held3 (fun w' => w'.cell? ⟨w.heap.size, 0, none⟩ = some (.slice p m c) ∧ w'.cell? ⟨w.heap.size, 1, none⟩ = some (.slice q m d))
      (first
        | go_keep
        | (exact ⟨(H0.out.fr F2).cell rfl, (H0.out.fr F2).cell rfl⟩))
      (first
        | (go_at_call 122; refine (l2Sums_any _ _ _ _ _ _ _ _ _ (hP1.fr (by first | exact (Fr.refl w1).drew' 1 | exact ((Fr.refl w1).alloc _).drew' 1)) (hW1.fr (by first | exact (Fr.refl w1).drew' 1 | exact ((Fr.refl w1).alloc _).drew' 1)) Ht.out).mono ?_; rintro e w2 ⟨a2, n2, c2, rfl, o2, f2, _⟩; have F2 : Fr w1 w2 := (by first | exact ((Fr.refl w1).drew' 1).trans f2 | exact (((Fr.refl w1).alloc _).drew' 1).trans f2); have y2 := F2.size; have x2 := o2.within; have o2' : Own w1.heap.size w2 a2 n2 c2 (gathM P W) := o2.mono (by first | exact Nat.le_refl _ | simp)))
    all_goals
      go_wp2_with fail
      go_meet
    · exact ⟨_, a2, n2, c2, rfl, rfl, (((Own.made w1 m (Nat.le_refl _) (by unfold maxLen; omega)).fr (Fr.drewN _ 1)).fr f2), o2', fun k h1 h2 => by simp [blkOf] at h1; have := x2 k h2; simp at this; omega, F2⟩
    · exact ⟨_, a2, n2, c2, rfl, rfl, Own.made w2 m y2 (by unfold maxLen; omega), o2'.fr ((Fr.refl _).alloc _), fun k h1 h2 => by simp [blkOf] at h1; have := x2 k h2; omega, F2.alloc _⟩
  case rest =>
    obtain ⟨g, a2, n2, k2, rfl, rfl, oO, oS, aOS, hF1⟩ := hcut
    have hn2 : n2 = m := by rw [← oS.len, N2.out]
    subst hn2
    have hg := oO.blk g rfl
    have hcb := Lib.hid (fun x => capM_bd (P := P) (W := W) (X := X) Ht.out Hv.out x)
    clear c0 c1 hP1 hW1 hmk
    go_wp2
    go_loopw [7] (fun i wr => ∃ x : Nat, x ≤ n2 ∧ i = .int .i64 ((x : Int) - 1) ∧ Own w1.heap.size wr (some ⟨g, 0, none⟩) n2 n2 (sufL P (nth (capM P W X)) x) ∧ Own w1.heap.size wr a2 n2 k2 (gathM P W) ∧ Fr w1 wr) (fun i _ => (intOf i + 1).toNat)
    case atStart => exact ⟨n2, by omega, rfl, by rw [← HP.out, sufL_all, HP.out]; exact oO, oS, hF1⟩
    case round =>
      clear oO oS hF1
      obtain ⟨x, hx, rfl, oO, oS, hF⟩ := hrel
      have hFw : Fr w wr := hfr.trans hF
      by_cases h0 : 0 < x
      · obtain ⟨t, rfl⟩ : ∃ t, x = t + 1 := ⟨x - 1, by omega⟩
        obtain ⟨gs, rfl, hs1, hs2, hsc, -⟩ := oS.op (by omega)
        replace hsc := hsc t (by omega)
        obtain ⟨bx, ox, rfl, hcx⟩ := (hX.fr hFw).cells.resolve_left (by omega)
        replace hcx := hcx t (by omega)
        obtain ⟨g', hg', hB, hlt2, hcc, hfro⟩ := oO.op (by omega)
        obtain rfl : g = g' := by simpa using hg'
        have hcg := hcc t (by omega)
        have hfa := hfro t
        clear hcc hfro hg'
        have hgs : gs ≠ g := fun e => aOS g rfl (by rw [← e]; rfl)
        have htl : t < P.length := by rw [HP.out]; omega
        have hpb : -479520 ≤ nth (gathM P W) t * nth X t ∧ nth (gathM P W) t * nth X t ≤ 479520 := cap_small Ht.out Hv.out 0 t htl
        have Hb := Lib.hid (hcb.out t htl)
        have i1 : (0 : Int) ≤ (t : Int) := by omega
        have i2 : (t : Int) < (n2 : Int) := by omega
        have HT := Lib.hid htl
        clear htl
        go_wp2
        have e1 : IntKind.i64.wrap (nth (gathM P W) t * nth X t) = nth (gathM P W) t * nth X t := IntWalk.i64_in _ (by omega)
        go_region
        clear e1
        have oO2 : Own w1.heap.size (wr.setCell ⟨g, t, none⟩ (.int .i64 (nth (gathM P W) t * nth X t))).drew (some ⟨g, 0, none⟩) n2 n2 ((sufL P (nth (capM P W X)) (t + 1)).set t (nth (gathM P W) t * nth X t)) := (oO.set rfl (by omega) (by unfold I64; omega)).drewN 1
        have oS2 : Own w1.heap.size (wr.setCell ⟨g, t, none⟩ (.int .i64 (nth (gathM P W) t * nth X t))).drew (some ⟨gs, 0, none⟩) n2 k2 (gathM P W) := (oS.setOther (by simpa [blkOf] using hgs) _).drewN 1
        have hF2 : Fr w1 (wr.setCell ⟨g, t, none⟩ (.int .i64 (nth (gathM P W) t * nth X t))).drew := (hF.setCell hB _).drew' 1
        generalize hwx : (wr.setCell ⟨g, t, none⟩ (.int .i64 (nth (gathM P W) t * nth X t))).drew = wx at oO2 oS2 hF2 ⊢
        clear hwx oO oS hF hFw hsc hcx hcg hfa
        have hFx := hfr.trans hF2
        have b0 := (H0.out.fr hF2).cell (j := 0) rfl
        have b1 := (H0.out.fr hF2).cell (j := 1) rfl
        obtain ⟨bw, ow, rfl, hcw⟩ := (hW.fr hFx).cells.resolve_left (by omega)
        replace hcw := hcw t (by omega)
        have HL : Hid (∀ y, t < y → y < P.length → nth ((sufL P (nth (capM P W X)) (t + 1)).set t (nth (gathM P W) t * nth X t)) y = nth (capM P W X) y) := Lib.hid (fun y h1 h2 => by
          rw [nth_set_ne (by omega), sufL_nth h2, if_neg (by omega)])
        have HK := Lib.hid (cap_kids (X := X) Ht.out HT.out HL.out)
        by_cases hw0 : nth W t = 0
        · have hwb : (nth W t == 0) = true := by simp [hw0]
          have HC : Hid (nth (capM P W X) t = max (nth (gathM P W) t * nth X t) (kidUp P (nth ((sufL P (nth (capM P W X)) (t + 1)).set t (nth (gathM P W) t * nth X t))) t n2)) := Lib.hid (by rw [HK.out, if_pos hw0, HP.out]; rfl)
          have hlv : Hid (∀ i, -479520 ≤ nth ((sufL P (nth (capM P W X)) (t + 1)).set t (nth (gathM P W) t * nth X t)) i ∧ nth ((sufL P (nth (capM P W X)) (t + 1)).set t (nth (gathM P W) t * nth X t)) i ≤ 479520) := Lib.hid (fun i => by
            by_cases hi : i < P.length
            · by_cases e : t = i
              · subst e; rw [nth_set_same (by rw [sufL_len]; exact hi)]; exact hpb
              · rw [nth_set_ne e, sufL_nth hi]
                split
                · omega
                · exact hcb.out i hi
            · rw [nth_out (by rw [List.length_set, sufL_len]; omega)]; omega)
          clear hw0
          obtain ⟨g', hg', -, -, hcc, hfro⟩ := oO2.op (by omega)
          obtain rfl : g = g' := by simpa using hg'
          have hcg := hcc t (by omega)
          rw [nth_set_same (by rw [sufL_len]; exact HT.out)] at hcg
          have hfa := hfro t
          clear hcc hfro hg'
          have hPx := hP.fr hFx
          have oL := oO2.sl
          have d0 := (H0.out.fr (hF2.drew' 1)).cell (j := 0) rfl
          have d1 := (H0.out.fr (hF2.drew' 1)).cell (j := 1) rfl
          go_wp2
          go_region_with (first
            | (go_at_call 141; refine (l4Kids_any _ _ _ _ _ _ _ _ _ _ P W _ t (hPx.fr (by first | exact (Fr.refl wx).drew' 1 | exact Fr.drewN wx 1)) (oL.fr (by first | exact (Fr.refl wx).drew' 1 | exact Fr.drewN wx 1)) Hp.out (by omega) rfl (by omega) hlv.out).mono ?_; rintro e w3 ⟨rfl, f3'⟩; have f3 : Fr wx w3 := (by first | exact ((Fr.refl wx).drew' 1).trans f3' | exact (Fr.drewN wx 1).trans f3'); have kc := f3.keep hcg; have kf := (oO2.fr f3).frz t)
            | (go_at_call 128; refine (l1Most_any _ _ _).mono ?_; rintro e w' ⟨rfl, rfl⟩))
          all_goals
            have hi64 := hcb.out t HT.out
            have oO3 := (oO2.fr f3).set rfl (show t < n2 by omega) (v := max (nth (gathM P W) t * nth X t) (kidUp P (nth ((sufL P (nth (capM P W X)) (t + 1)).set t (nth (gathM P W) t * nth X t))) t n2)) (by rw [← HC.out]; unfold I64; omega)
            have oS3 := (oS2.fr f3).setOther (p := ⟨g, t, none⟩) (by simpa [blkOf] using hgs) (.int .i64 (max (nth (gathM P W) t * nth X t) (kidUp P (nth ((sufL P (nth (capM P W X)) (t + 1)).set t (nth (gathM P W) t * nth X t))) t n2)))
            have hF3 := (hF2.trans f3).setCell (p := ⟨g, t, none⟩) hB (.int .i64 (max (nth (gathM P W) t * nth X t) (kidUp P (nth ((sufL P (nth (capM P W X)) (t + 1)).set t (nth (gathM P W) t * nth X t))) t n2)))
            have HS : Hid (((sufL P (nth (capM P W X)) (t + 1)).set t (nth (gathM P W) t * nth X t)).set t (max (nth (gathM P W) t * nth X t) (kidUp P (nth ((sufL P (nth (capM P W X)) (t + 1)).set t (nth (gathM P W) t * nth X t))) t n2)) = sufL P (nth (capM P W X)) t) := Lib.hid (by
              rw [← HC.out, List.set_set, sufL_set HT.out])
            rw [HS.out] at oO3
            clear HS hi64
            go_wp2
            go_roundw
            case rel => exact ⟨t, by omega, rfl, oO3, oS3, hF3⟩
            case measure => (simp [intOf]; try omega)
        · have hwb : (nth W t == 0) = false := by simp [hw0]
          have HC : Hid (nth (capM P W X) t = nth (gathM P W) t * nth X t) := Lib.hid (by rw [HK.out, if_neg hw0]; rfl)
          clear hw0
          go_wp2
          go_roundw
          case rel =>
            refine ⟨t, by omega, rfl, ?_, oS2, hF2⟩
            rw [← sufL_set HT.out, HC.out]; exact oO2
          case measure => (simp [intOf]; try omega)
      · obtain rfl : x = 0 := by omega
        have HZ : Hid (sufL P (nth (capM P W X)) 0 = capM P W X) := Lib.hid (by
          rw [sufL_zero]
          apply List.ext_getElem
          · rw [capM_len]; simp
          · intro i h1 h2; simp only [List.getElem_map, List.getElem_range]; exact nth_eq h2)
        rw [HZ.out] at oO
        have z1 := Z1.out
        go_wp2
        go_ret
        exact ⟨_, _, _, rfl, oO.mono (by omega), hFw, by omega⟩

end Go.Proofs.Ytojipjjfndgbhaa
