import Derived.Test.YtboekndojgbkfaaFill
import Derived.StillTailTactics
/- Contracts of l10Fill, SortedPlan. -/
set_option linter.unusedVariables false
namespace Go.Proofs.Ytboekndojgbkfaa
open Go.ChangeShapes Go.WideShapes Go.ChangeAt Go.RowKit

set_option maxHeartbeats 600000 in
theorem l10Fill_any (B H n m : Nat) (w : World) (t a b : Option Addr) (ct ca cb : Nat) (T : List (List Int)) (hs ls : List Int) (hT : OwnSS B H w t n ct T) (hh : SL w a n ca hs) (hl : SL w b m cb ls)
    (F : FillI n m T hs ls) (hn : n ≤ 8) (hm : m ≤ 8) (hBH : B ≤ H) (hH : H ≤ w.heap.size) :
    Calls Try.prog 90 #[.slice t n ct, .slice a n ca, .slice b m cb] w fun e w' => e = .returned (.slice t n ct) ∧ OwnSS B H w' t n ct (fillM T hs ls) ∧ Below B w w' := by
  have HS : Hid (fillM T hs ls = fillS (n + m) 0 0 T hs ls) := Lib.hid (by rw [fillM, F.hl, F.ll])
  go_enter Try.func90, Try.ntmps90
  go_wp2_with fail
  refine (l1Own_any _ _ _ _ _ hh (by omega)).mono ?_
  rintro e w1 ⟨a1, n1, ca1, rfl, o1, f1, _⟩
  obtain rfl : n1 = n := by rw [← o1.len, F.hl]
  go_wp2_with fail
  refine (l1Own_any _ _ _ _ _ (hl.fr f1) (by omega)).mono ?_
  rintro e w2 ⟨a2, n2, ca2, rfl, o2, f2, _⟩
  obtain rfl : n2 = m := by rw [← o2.len, F.ll]
  have hab : Apart a1 a2 := fun k h1 h2 => by have := o1.within k h1; have := o2.within k h2; omega
  have hz1 := f1.size
  have hz2 := f2.size
  have hB2 : Below B w w2 := Below.mono (f1.trans f2) (by omega)
  replace hT := hT.fr (f1.trans f2)
  replace hh := (o1.fr f2).mono hH
  replace hl := o2.mono (Nat.le_trans hH hz1)
  clear o1 o2 f1 f2
  go_wp2
  go_loopw [9, 10] (fun x y wr => ∃ (i k f : Nat) (t' : List (List Int)) (h' l' : List Int), i ≤ n1 ∧ k ≤ n2 ∧ x = .int .i64 i ∧ y = .int .i64 k ∧
    OwnSS B H wr t n1 ct t' ∧ Own H wr a1 n1 ca1 h' ∧ Own H wr a2 n2 ca2 l' ∧ FillI n1 n2 t' h' l' ∧ Below B w wr ∧ Hid (fillS f i k t' h' l' = fillM T hs ls) ∧ f = (n1 - i) + (n2 - k)) (fun x y _ => (n1 - (intOf x).toNat) + (n2 - (intOf y).toNat))
  case atStart => exact ⟨0, 0, n1 + n2, T, hs, ls, by omega, by omega, rfl, rfl, hT, hh, hl, F, hB2, Lib.hid HS.out.symm, rfl⟩
  case round =>
    clear hT hh hl F HS hB2
    obtain ⟨i, k, f, t', h', l', hi, hk, rfl, rfl, hT, hh, hl, F, hf, hS, hfe⟩ := hrel
    by_cases hc : i < n1 ∧ k < n2
    · obtain ⟨hin, hkm⟩ := hc
      have Fh := F.hb i
      have Fl := F.lb k
      have Fc := F.cb i k
      obtain ⟨gt, gr, cr, rfl, hc1, hc2, hc3, hr1, hr2, hr3, hr4, _⟩ := hT.spot F.row hin hkm
      obtain ⟨ga, rfl, ha1, ha2, ha3, ha4⟩ := hh.op (by omega)
      obtain ⟨gb, rfl, hb1, hb2, hb3, hb4⟩ := hl.op (by omega)
      have hne : ga ≠ gb := fun e => hab ga rfl (by rw [e]; rfl)
      replace ha3 := ha3 i hin
      replace hb3 := hb3 k hkm
      replace ha4 := ha4 i
      replace hb4 := hb4 k
      have i1 : (0 : Int) ≤ (i : Int) := by omega
      have i2 : (i : Int) < (n1 : Int) := by omega
      have i3 : (0 : Int) ≤ (k : Int) := by omega
      have i4 : (k : Int) < (n2 : Int) := by omega
      have hlen1 : i < h'.length := by rw [F.hl]; exact hin
      have hlen2 : k < l'.length := by rw [F.ll]; exact hkm
      obtain ⟨f, rfl⟩ : ∃ f', f = f' + 1 := ⟨f - 1, by omega⟩
      have hSS := hS.out
      rw [fillS, if_pos ⟨hlen1, hlen2⟩] at hSS
      have hm1 : min (nth h' i) (nth l' k) ≤ nth h' i := by omega
      have hm2 : min (nth h' i) (nth l' k) ≤ nth l' k := by omega
      have hm0 : 0 ≤ min (nth h' i) (nth l' k) := by omega
      obtain ⟨c, hce⟩ : ∃ c, c = min (nth h' i) (nth l' k) := ⟨_, rfl⟩
      have HM := Lib.hid hce
      rw [← hce] at hSS hm1 hm2 hm0
      clear hce
      have F2 := F.step hin hkm hm0 hm1 hm2
      have q1 : gr ≠ ga := by omega
      have q2 : gr ≠ gb := by omega
      have hfe2 := Lib.hid hfe
      clear hlen1 hlen2 hfe
      have e3 : IntKind.i64.wrap (cellT t' i k + c) = cellT t' i k + c := IntWalk.i64_in _ (by omega)
      by_cases h0 : nth h' i - c = 0
      · rw [if_pos h0] at hSS
        have HSS := Lib.hid hSS
        have b1 : (nth h' i - c == 0) = true := by simp [h0]
        clear hSS h0
        go_wp2
        go_quiet ((go_at_call 89; exact qofe (l1Least_any _ _ _)))
        rw [← HM.out]
        go_wp2
        go_region
        clear e3
        go_wp2
        go_roundw
        case rel =>
          refine ⟨i + 1, k, f, _, _, _, by omega, by omega, by go_num, rfl, ?_, ?_, ?_, F2, ?_, HSS, by have := hfe2.out; omega⟩
          · exact (((hT.fr (Fr.drewN _ _)).setAt F.row hin hkm rfl hc1 (by unfold I64; omega)).put (.inr (by simp; omega)) _).put (.inr (by simp; omega)) _
          · exact (((hh.drewN _).setOther (by simp [blkOf]; omega) _).set rfl hin (by unfold I64; omega)).setOther (by simp [blkOf]; omega) _
          · exact (((hl.drewN _).setOther (by simp [blkOf]; omega) _).setOther (by simp [blkOf]; omega) _).set rfl hkm (by unfold I64; omega)
          · exact Below.setCell (Below.setCell (Below.setCell (below_quiet hf _) (by simp; omega) _) (by simp; omega) _) (by simp; omega) _
        case measure => simp [intOf]; omega
      · rw [if_neg h0] at hSS
        have HSS := Lib.hid hSS
        have b1 : (nth h' i - c == 0) = false := by simp [h0]
        clear hSS h0
        go_wp2
        go_quiet ((go_at_call 89; exact qofe (l1Least_any _ _ _)))
        rw [← HM.out]
        go_wp2
        go_region
        clear e3
        go_wp2
        go_roundw
        case rel =>
          refine ⟨i, k + 1, f, _, _, _, by omega, by omega, rfl, by go_num, ?_, ?_, ?_, F2, ?_, HSS, by have := hfe2.out; omega⟩
          · exact (((hT.fr (Fr.drewN _ _)).setAt F.row hin hkm rfl hc1 (by unfold I64; omega)).put (.inr (by simp; omega)) _).put (.inr (by simp; omega)) _
          · exact (((hh.drewN _).setOther (by simp [blkOf]; omega) _).set rfl hin (by unfold I64; omega)).setOther (by simp [blkOf]; omega) _
          · exact (((hl.drewN _).setOther (by simp [blkOf]; omega) _).setOther (by simp [blkOf]; omega) _).set rfl hkm (by unfold I64; omega)
          · exact Below.setCell (Below.setCell (Below.setCell (below_quiet hf _) (by simp; omega) _) (by simp; omega) _) (by simp; omega) _
        case measure => simp [intOf]; omega
    · have HX := Lib.hid hc
      have hX : Hid (fillM T hs ls = t') := Lib.hid (by rw [← hS.out, fillS_out (by rw [F.hl, F.ll]; exact HX.out)])
      by_cases hin : i < n1
      · have hkm : ¬ k < n2 := fun h => hc ⟨hin, h⟩
        clear hc
        go_wp2
        go_ret
        exact ⟨rfl, by rw [hX.out]; exact hT, hf⟩
      · clear hc
        go_wp2
        go_ret
        exact ⟨rfl, by rw [hX.out]; exact hT, hf⟩

end Go.Proofs.Ytboekndojgbkfaa
