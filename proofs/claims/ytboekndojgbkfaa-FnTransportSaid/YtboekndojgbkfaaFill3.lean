import Derived.Test.YtboekndojgbkfaaFill2
/- Contracts of SortedPlan and KeepingPlan. -/
set_option linter.unusedVariables false
namespace Go.Proofs.Ytboekndojgbkfaa
open Go.ChangeShapes Go.WideShapes Go.ChangeAt Go.RowKit

theorem sortedM_tot {p q : List Int} (h : alikeB p q = true) : tot (sortedM p q) ≤ 1048576 := by
  have F := FillI.start h
  have hs := fillS_shape (p.length + q.length) 0 0 _ p q F.tl F.row
  rw [sortedM, fillM, tot_rows (m := q.length) (fun i hi => hs.2 i (by omega)), hs.1]
  obtain ⟨s1, s2, s3, s4⟩ := alikeB_iff.1 h
  have g1 := (spreadB_iff.1 s1).1
  have g2 := (spreadB_iff.1 s2).1
  have := Nat.mul_le_mul g1.2 g2.2
  omega
theorem keepingM_tot {p q : List Int} (h : alikeB p q = true) : tot (keepingM p q) ≤ 1048576 := by
  have F := FillI.keep h
  have hs := fillS_shape ((keepL p q p.length).length + (keepL q p p.length).length) 0 0 _ (keepL p q p.length) (keepL q p p.length) F.tl F.row
  rw [keepingM, fillM, tot_rows (m := p.length) (fun i hi => hs.2 i (by omega)), hs.1]
  obtain ⟨s1, s2, s3, s4⟩ := alikeB_iff.1 h
  have g1 := (spreadB_iff.1 s1).1
  have := Nat.mul_le_mul g1.2 g1.2
  omega

theorem sortedPlan_any (w : World) (a b : Option Addr) (n1 c1 n2 c2 : Nat) (p q : List Int) (hp : SL w a n1 c1 p) (hq : SL w b n2 c2 q) (hal : alikeB p q = true) :
    Calls Try.prog 86 #[.slice a n1 c1, .slice b n2 c2] w (RetSS (sortedM p q) w) := by
  have HM := Lib.hid (sortedM_tot hal)
  have F := FillI.start hal
  obtain ⟨s1, s2, s3, s4⟩ := alikeB_iff.1 hal
  have g1 := (spreadB_iff.1 s1).1
  have g2 := (spreadB_iff.1 s2).1
  obtain rfl := hp.len
  obtain rfl := hq.len
  clear s1 s2 s4 hal
  have HE := Lib.hid s3
  clear s3
  go_enter Try.func86, Try.ntmps86
  go_wp2_with fail
  refine (emptyTable_any _ _ _ g1.2 g2.2).mono ?_
  rintro e w1 ⟨a1, n3, c3, rfl, o1, f1, _⟩
  obtain rfl : n3 = p.length := by rw [← o1.len, F.tl]
  go_wp2_with fail
  refine (copied_any _ _ _ _ _ (hp.fr f1) (by omega)).mono ?_
  rintro e w2 ⟨a2, n4, c4, rfl, o2, f2, _⟩
  obtain rfl := o2.len
  go_wp2_with fail
  refine (copied_any _ _ _ _ _ (hq.fr (f1.trans f2)) (by omega)).mono ?_
  rintro e w3 ⟨a3, n5, c5, rfl, o3, f3, _⟩
  obtain rfl := o3.len
  have hab : Apart a2 a3 := fun k h1 h2 => by have := o2.within k h1; have := o3.within k h2; omega
  have z1 := f1.size
  have z2 := f2.size
  have z3 := f3.size
  go_wp2_with fail
  refine (fill_any w.heap.size w1.heap.size w1.heap.size _ _ _ _ _ _ _ _ _ _ _ _ (o1.fr (f2.trans f3)) (o2.fr f3) (o3.mono (by omega)) (Nat.le_refl _) hab F g1.2 g2.2 z1).mono ?_
  rintro e w4 ⟨rfl, o4, f4⟩
  go_wp2
  go_ret
  have z4 := f4.size
  exact ⟨_, _, _, rfl, o4.upto (by omega), Below.trans ((f1.trans f2).trans f3) f4, HM.out, by omega⟩

theorem l10Sorted_any (w : World) (a b : Option Addr) (n1 c1 n2 c2 : Nat) (p q : List Int) (hp : SL w a n1 c1 p) (hq : SL w b n2 c2 q) (hal : alikeB p q = true) :
    Calls Try.prog 85 #[.slice a n1 c1, .slice b n2 c2] w (RetSS (sortedM p q) w) := by
  have HM := Lib.hid (sortedM_tot hal)
  have F := FillI.start hal
  obtain ⟨s1, s2, s3, s4⟩ := alikeB_iff.1 hal
  have g1 := (spreadB_iff.1 s1).1
  have g2 := (spreadB_iff.1 s2).1
  obtain rfl := hp.len
  obtain rfl := hq.len
  clear s1 s2 s4 hal
  have HE := Lib.hid s3
  clear s3
  go_enter Try.func85, Try.ntmps85
  go_wp2_with fail
  refine (l10Empty_any _ _ _ g1.2 g2.2).mono ?_
  rintro e w1 ⟨a1, n3, c3, rfl, o1, f1, _⟩
  obtain rfl : n3 = p.length := by rw [← o1.len, F.tl]
  have z1 := f1.size
  go_wp2_with fail
  refine (l10Fill_any w.heap.size w1.heap.size _ _ _ _ _ _ _ _ _ _ _ _ o1 (hp.fr f1) (hq.fr f1) F g1.2 g2.2 z1 (Nat.le_refl _)).mono ?_
  rintro e w4 ⟨rfl, o4, f4⟩
  go_wp2
  go_ret
  have z4 := f4.size
  exact ⟨_, _, _, rfl, o4.upto (by omega), Below.trans f1 f4, HM.out, by omega⟩

theorem impl_SortedPlan_any (w : World) (a b : Option Addr) (n1 c1 n2 c2 : Nat) (p q : List Int) (hp : SL w a n1 c1 p) (hq : SL w b n2 c2 q) :
    Calls Try.prog 32 #[.slice a n1 c1, .slice b n2 c2] w (RetSSB (sortedV p q) (alikeB p q) w) := by
  cases h1 : alikeB p q
  · have HV : Hid (sortedV p q = []) := Lib.hid (by rw [sortedV, h1]; rfl)
    go_enter Try.func32, Try.ntmps32
    go_wp2_with (go_at_call 74; refine (alike_any _ _ _ _ _ _ _ _ _ hp hq).mono ?_; rintro e w' ⟨rfl, rfl⟩)
    go_ret2
    rw [HV.out]
    first
      | exact ⟨none, 0, 0, rfl, OwnSS.nil _ _ _, Fr.refl _, by simp [tot], by omega⟩
      | exact ⟨_, 0, 0, rfl, (OwnSS.made0 _ (Nat.le_refl _) (by simp)), (Fr.refl _).alloc _, by simp [tot], by omega⟩
  · have H1 := Lib.hid h1
    have HV : Hid (sortedV p q = sortedM p q) := Lib.hid (by rw [sortedV, h1]; rfl)
    go_enter Try.func32, Try.ntmps32
    go_wp2_with fail
    refine (alike_any _ _ _ _ _ _ _ _ _ hp hq).mono ?_
    rintro e w' ⟨rfl, rfl⟩
    go_wp2_with fail
    clear h1
    refine (sortedPlan_any _ _ _ _ _ _ _ _ _ hp hq H1.out).mono ?_
    rintro e w1 ⟨a1, n3, c3, rfl, o1, f1, m1⟩
    go_wp2
    go_ret2
    rw [HV.out]
    exact ⟨_, _, _, rfl, o1, f1, m1⟩

theorem spec_SortedPlan_any (w : World) (a b : Option Addr) (n1 c1 n2 c2 : Nat) (p q : List Int) (hp : SL w a n1 c1 p) (hq : SL w b n2 c2 q) :
    Calls Try.prog 31 #[.slice a n1 c1, .slice b n2 c2] w (RetSSB (sortedV p q) (alikeB p q) w) := by
  cases h1 : alikeB p q
  · have HV : Hid (sortedV p q = []) := Lib.hid (by rw [sortedV, h1]; rfl)
    go_enter Try.func31, Try.ntmps31
    go_wp2_with (go_at_call 71; refine (l10Alike_any _ _ _ _ _ _ _ _ _ hp hq).mono ?_; rintro e w' ⟨rfl, rfl⟩)
    go_ret2
    rw [HV.out]
    first
      | exact ⟨none, 0, 0, rfl, OwnSS.nil _ _ _, Fr.refl _, by simp [tot], by omega⟩
      | exact ⟨_, 0, 0, rfl, (OwnSS.made0 _ (Nat.le_refl _) (by simp)), (Fr.refl _).alloc _, by simp [tot], by omega⟩
  · have H1 := Lib.hid h1
    have HV : Hid (sortedV p q = sortedM p q) := Lib.hid (by rw [sortedV, h1]; rfl)
    go_enter Try.func31, Try.ntmps31
    go_wp2_with fail
    refine (l10Alike_any _ _ _ _ _ _ _ _ _ hp hq).mono ?_
    rintro e w' ⟨rfl, rfl⟩
    go_wp2_with fail
    clear h1
    refine (l10Sorted_any _ _ _ _ _ _ _ _ _ hp hq H1.out).mono ?_
    rintro e w1 ⟨a1, n3, c3, rfl, o1, f1, m1⟩
    go_wp2
    go_ret2
    rw [HV.out]
    exact ⟨_, _, _, rfl, o1, f1, m1⟩

theorem impl_KeepingPlan_any (w : World) (a b : Option Addr) (n1 c1 n2 c2 : Nat) (p q : List Int) (hp : SL w a n1 c1 p) (hq : SL w b n2 c2 q) :
    Calls Try.prog 39 #[.slice a n1 c1, .slice b n2 c2] w (RetSSB (keepingV p q) (alikeB p q) w) := by
  cases h1 : alikeB p q
  · have HV : Hid (keepingV p q = []) := Lib.hid (by rw [keepingV, h1]; rfl)
    go_enter Try.func39, Try.ntmps39
    go_wp2_with (go_at_call 74; refine (alike_any _ _ _ _ _ _ _ _ _ hp hq).mono ?_; rintro e w' ⟨rfl, rfl⟩)
    go_ret2
    rw [HV.out]
    exact ⟨none, 0, 0, rfl, OwnSS.nil _ _ _, Fr.refl _, by simp [tot], by omega⟩
  · have H1 := Lib.hid h1
    have HV : Hid (keepingV p q = keepingM p q) := Lib.hid (by rw [keepingV, h1]; rfl)
    have HT := Lib.hid (keepingM_tot h1)
    have F := FillI.keep h1
    obtain ⟨s1, s2, s3, s4⟩ := alikeB_iff.1 h1
    have g1 := (spreadB_iff.1 s1).1
    obtain rfl := hp.len
    have hn : n2 = p.length := by rw [← hq.len, s3]
    subst hn
    have HQ := Lib.hid s3
    have HPN := Lib.hid (spread_nth s1)
    have HQN := Lib.hid (spread_nth s2)
    clear s1 s2 s3 s4
    go_enter Try.func39, Try.ntmps39
    go_wp2_with fail
    refine (alike_any _ _ _ _ _ _ _ _ _ hp hq).mono ?_
    rintro e w' ⟨rfl, rfl⟩
    go_wp2_with fail
    clear h1
    refine (emptyTable_any _ _ _ g1.2 g1.2).mono ?_
    rintro e w1 ⟨a1, n3, c3, rfl, o1, f1, _⟩
    obtain rfl : n3 = p.length := by rw [← o1.len]; simp [zeros]
    go_wp2_with fail
    refine (copied_any _ _ _ _ _ (hp.fr f1) (by omega)).mono ?_
    rintro e w2 ⟨a2, n4, c4, rfl, o2, f2, _⟩
    obtain rfl := o2.len
    go_wp2_with fail
    refine (copied_any _ _ _ _ _ (hq.fr (f1.trans f2)) (by omega)).mono ?_
    rintro e w3 ⟨a3, n5, c5, rfl, o3, f3, _⟩
    obtain rfl : n5 = p.length := by rw [← o3.len, HQ.out]
    have hab : Apart a2 a3 := fun k h1 h2 => by have := o2.within k h1; have := o3.within k h2; omega
    have z1 := f1.size
    have z2 := f2.size
    have z3 := f3.size
    have hF := (f1.trans f2).trans f3
    replace o1 := o1.fr (f2.trans f3)
    replace o2 := o2.fr f3
    replace o3 := o3.mono (B' := w1.heap.size) (by omega)
    clear f1 f2 f3
    have HK0 : Hid (zeros p.length p.length = keepT p q 0) := Lib.hid (by rw [keepT, HQ.out])
    go_wp2
    go_loopw [26] (fun i wr => ∃ j : Nat, j ≤ p.length ∧ i = .int .i64 j ∧ OwnSS w.heap.size w1.heap.size wr a1 p.length c3 (keepT p q j) ∧ Own w1.heap.size wr a2 p.length c4 (keepL p q j) ∧ Own w1.heap.size wr a3 p.length c5 (keepL q p j) ∧ Fr w wr ∧ w1.heap.size ≤ wr.heap.size) (fun i _ => p.length - (intOf i).toNat)
    case atStart => exact ⟨0, by omega, rfl, by rw [← HK0.out]; exact o1, by rw [keepL_zero]; exact o2, by rw [keepL_zero]; exact o3, hF, by omega⟩
    case round =>
      clear o1 o2 o3 hF
      obtain ⟨j, hj, rfl, hT, hh, hl, hf, hsz⟩ := hrel
      by_cases hlt : j < p.length
      · have HR : Hid (∀ i, i < p.length → (nthL (keepT p q j) i).length = p.length) := Lib.hid (fun i hi => by rw [keepT_row _ _ _ _ hi, HQ.out])
        obtain ⟨gt, gr, cr, rfl, hc1, hc2, hc3, hr1, hr2, hr3, hr4, _⟩ := hT.spot HR.out hlt hlt
        obtain ⟨ga, rfl, ha1, ha2, ha3, ha4⟩ := hh.op (by omega)
        obtain ⟨gb, rfl, hb1, hb2, hb3, hb4⟩ := hl.op (by omega)
        have hne : ga ≠ gb := fun e => hab ga rfl (by rw [e]; rfl)
        replace ha3 := ha3 j hlt
        replace hb3 := hb3 j hlt
        rw [keepL_nth _ _ _ _ hlt, if_neg (by omega)] at ha3
        rw [keepL_nth _ _ _ _ (by rw [← HQ.out]; exact hlt), if_neg (by omega)] at hb3
        replace ha4 := ha4 j
        replace hb4 := hb4 j
        have q1 : gr ≠ ga := by omega
        have q2 : gr ≠ gb := by omega
        have B1 := HPN.out j
        have B2 := HQN.out j
        obtain ⟨bp, op, rfl, hcp⟩ := (hp.fr hf).cells.resolve_left (by omega)
        replace hcp := hcp j hlt
        obtain ⟨bq, oq, rfl, hcq⟩ := (hq.fr hf).cells.resolve_left (by omega)
        replace hcq := hcq j hlt
        have i1 : (0 : Int) ≤ (j : Int) := by omega
        have i2 : (j : Int) < (p.length : Int) := by omega
        have hfs := hf.size
        have E1 := keepL_succ p q j hlt
        have E2 := keepL_succ q p j (by rw [← HQ.out]; exact hlt)
        have E3 : keepT p q (j + 1) = setC (keepT p q j) j j (min (nth p j) (nth q j)) := rfl
        rw [min_comm' (nth q j)] at E2
        by_cases hle : nth p j ≤ nth q j
        · have hm : min (nth p j) (nth q j) = nth p j := by omega
          rw [hm] at E1 E2 E3
          rw [Int.sub_self] at E1
          have K1 := Lib.hid E1
          have K2 := Lib.hid E2
          have K3 := Lib.hid E3
          clear E1 E2 E3 hm
          go_wp2
          go_quiet (fail)
          go_wp2
          go_roundw
          case rel =>
            refine ⟨j + 1, by omega, by go_num, ?_, ?_, ?_, ?_, by simp; omega⟩
            · rw [K3.out]; exact (((hT.fr (Fr.drewN _ _)).setAt HR.out hlt hlt rfl hc1 (by unfold I64; omega)).put (.inr (by simp; omega)) _).put (.inr (by simp; omega)) _
            · rw [← K1.out]; exact (((hh.drewN _).setOther (by simp [blkOf]; omega) _).set rfl hlt (by unfold I64; omega)).setOther (by simp [blkOf]; omega) _
            · rw [← K2.out]; exact (((hl.drewN _).setOther (by simp [blkOf]; omega) _).setOther (by simp [blkOf]; omega) _).set rfl hlt (by unfold I64; omega)
            · exact (((hf.drew' _).setCell (by simp; omega) _).setCell (by simp; omega) _).setCell (by simp; omega) _
          case measure => simp [intOf]; omega
        · have hm : min (nth p j) (nth q j) = nth q j := by omega
          rw [hm] at E1 E2 E3
          rw [Int.sub_self] at E2
          have K1 := Lib.hid E1
          have K2 := Lib.hid E2
          have K3 := Lib.hid E3
          clear E1 E2 E3 hm
          go_wp2
          go_quiet (fail)
          go_wp2
          go_roundw
          case rel =>
            refine ⟨j + 1, by omega, by go_num, ?_, ?_, ?_, ?_, by simp; omega⟩
            · rw [K3.out]; exact (((hT.fr (Fr.drewN _ _)).setAt HR.out hlt hlt rfl hc1 (by unfold I64; omega)).put (.inr (by simp; omega)) _).put (.inr (by simp; omega)) _
            · rw [← K1.out]; exact (((hh.drewN _).setOther (by simp [blkOf]; omega) _).set rfl hlt (by unfold I64; omega)).setOther (by simp [blkOf]; omega) _
            · rw [← K2.out]; exact (((hl.drewN _).setOther (by simp [blkOf]; omega) _).setOther (by simp [blkOf]; omega) _).set rfl hlt (by unfold I64; omega)
            · exact (((hf.drew' _).setCell (by simp; omega) _).setCell (by simp; omega) _).setCell (by simp; omega) _
          case measure => simp [intOf]; omega
      · obtain rfl : j = p.length := by omega
        go_wp2_with fail
        refine (fill_any w.heap.size w1.heap.size w1.heap.size _ _ _ _ _ _ _ _ _ _ _ _ hT hh hl (Nat.le_refl _) hab F g1.2 g1.2 z1).mono ?_
        rintro e w4 ⟨rfl, o4, f4⟩
        go_wp2
        go_ret2
        rw [HV.out]
        have z4 := f4.size
        exact ⟨_, _, _, rfl, o4.upto (by omega), Below.trans hf f4, HT.out, by omega⟩

end Go.Proofs.Ytboekndojgbkfaa
