import Derived.Test.YtfdidelonilnmaaUseStake
import Derived.Deep.RegionWith
/- Contracts of StakeLoss. -/
set_option linter.unusedVariables false
namespace Go.Proofs.Ytfdidelonilnmaa
open Go.ChangeShapes Go.WideShapes Go.ChangeAt Go.RowKit

def lossB (u : List Int) (x y r c s : Int) : Bool := coinsB u x y r c && inB s 0 (mS u.length c.toNat : Nat)
def lossV (u : List Int) (x y r c s : Int) : Int := bif lossB u x y r c s then nth (worthsTo u x y r.toNat) c.toNat - stk x y (worthsTo u x y (r.toNat - 1)) c.toNat s.toNat else 0

theorem spec_StakeLoss_any (w : World) (a : Option Addr) (n cap : Nat) (u : List Int) (x y r c s : Int) (h : SL w a n cap u) (_ : I64 x) (_ : I64 y) (_ : I64 r) (_ : I64 c) (_ : I64 s) :
    Calls Try.prog 31 #[.slice a n cap, .int .i64 x, .int .i64 y, .int .i64 r, .int .i64 c, .int .i64 s] w fun e w' => e = .returned (.tuple #[.int .i64 (lossV u x y r c s), .bool (lossB u x y r c s)]) ∧ Fr w w' := by
  have Hl := Lib.hid h.len
  cases h1 : coinsB u x y r c
  · have H1 := Lib.hid h1
    go_enter Try.func31, Try.ntmps31
    go_wp2_with (go_at_call 68; refine (l11Coins_any _ _ _ _ _ _ _ _ _ h).mono ?_; rintro e w' ⟨rfl, rfl⟩)
    go_ret2
    exact ⟨by simp [lossV, lossB, H1.out], Fr.refl _⟩
  · have H1 := Lib.hid h1
    obtain ⟨g1, g2, g3, g4, g5⟩ := coinsB_iff.1 h1
    rw [Hl.out] at g5
    obtain ⟨R, rfl⟩ := Int.eq_ofNat_of_zero_le (show 0 ≤ r by omega)
    obtain ⟨C, rfl⟩ := Int.eq_ofNat_of_zero_le g4
    have hn : n ≤ 13 := by have := (useB_iff.1 g1).2.1; have := h.len; omega
    have hmin : Hid (min (C : Int) ((n : Int) - 1 - (C : Int)) = (mS n C : Nat)) := by unfold Hid mS; omega
    cases h2 : inB s 0 (mS n C : Nat)
    · have H2 := Lib.hid h2
      go_enter Try.func31, Try.ntmps31
      go_wp2_with fail
      refine (l11Coins_any _ _ _ _ _ _ _ _ _ h).mono ?_
      rintro e w' ⟨rfl, rfl⟩
      go_wp2_with fail
      refine (l1Least_any _ _ _).mono ?_
      rintro e w' ⟨rfl, rfl⟩
      rw [hmin.out]
      go_wp2_with (go_at_call 58; refine (l1In_any _ _ _ _).mono ?_; rintro e w' ⟨rfl, rfl⟩)
      go_ret2
      exact ⟨by simp [lossV, lossB, Hl.out, H2.out], Fr.refl _⟩
    · have H2 := Lib.hid h2
      obtain ⟨k1, k2⟩ := inB_iff.1 h2
      obtain ⟨S, rfl⟩ := Int.eq_ofNat_of_zero_le k1
      have hms : mS n C ≤ C ∧ mS n C ≤ n - 1 - C := by unfold mS; omega
      obtain ⟨t, ht⟩ : ∃ t, R = t + 1 := ⟨R - 1, by omega⟩
      have HT := Lib.hid ht
      have ht' : (R : Int) - 1 = (t : Int) := by omega
      have htR : t < R := by omega
      clear ht
      have HM := Lib.hid (worths_bd4 g1 g2 t (by omega))
      obtain ⟨hx, hy, _⟩ := luckB_iff.1 g2
      have hbw := worths_bd g1 hx hy R C
      have hb8 := pow8' R (by omega)
      have hstk := stk_bd hx hy HM.out C S
      have hst2 : stk x y (worthsTo u x y t) C S = x * nth (worthsTo u x y t) (C + S) + y * nth (worthsTo u x y t) (C - S) := rfl
      have hsb : 0 ≤ stk x y (worthsTo u x y t) C S ∧ stk x y (worthsTo u x y t) C S ≤ 32735232 := by omega
      have hwb : 0 ≤ nth (worthsTo u x y R) C ∧ nth (worthsTo u x y R) C ≤ 32735232 := by omega
      have G1 := Lib.hid g1; have G2 := Lib.hid g2
      clear g1 g2 hst2 hstk hbw hb8
      go_enter Try.func31, Try.ntmps31
      go_wp2_with fail
      refine (l11Coins_any _ _ _ _ _ _ _ _ _ h).mono ?_
      rintro e w' ⟨rfl, rfl⟩
      go_wp2_with fail
      refine (l1Least_any _ _ _).mono ?_
      rintro e w' ⟨rfl, rfl⟩
      rw [hmin.out]
      go_wp2_with (go_at_call 58; refine (l1In_any _ _ _ _).mono ?_; rintro e w' ⟨rfl, rfl⟩)
      refine (l11Table_any _ _ _ _ _ _ _ R h G1.out G2.out (by omega)).mono ?_
      rintro e w1 ⟨a1, n1, c1, rfl, o1, f1, t1, m1⟩
      have hn1 : n1 = R + 1 := by rw [← o1.len, tabM_len]
      subst hn1
      obtain ⟨g, p3, m3, c3, rfl, hcell, hrow, _, _, _⟩ := o1.rowAt (i := t) (by omega)
      obtain ⟨g', p4, m4, c4, hg', hcell2, hrow2, _, _, _⟩ := o1.rowAt (i := R) (by omega)
      obtain rfl : g = g' := by simpa using hg'
      rw [tabM_at _ _ _ _ _ (by omega)] at hrow hrow2
      have hm3 : m3 = n := by rw [← hrow.len, worthsTo_len, Hl.out]
      have hm4 : m4 = n := by rw [← hrow2.len, worthsTo_len, Hl.out]
      subst hm3
      subst hm4
      obtain ⟨b4, rfl, _, _, hc4, _⟩ := hrow2.op (by omega)
      have hd4 := hc4 C (by omega)
      clear hc4
      have i1 : (0 : Int) ≤ (R : Int) := by omega
      have i2 : (R : Int) < ((R + 1 : Nat) : Int) := by omega
      have i3 : (0 : Int) ≤ (t : Int) := by omega
      have i4 : (t : Int) < ((R + 1 : Nat) : Int) := by omega
      have i5 : (0 : Int) ≤ (C : Int) := by omega
      have i6 : (C : Int) < (m4 : Int) := by omega
      go_wp2
      have w1' : IntKind.i64.wrap ((R : Int) - 1) = (t : Int) := by rw [IntWalk.i64_in _ (by omega)]; omega
      have w2' : IntKind.i64.wrap (nth (worthsTo u x y R) C - stk x y (worthsTo u x y t) C S) = nth (worthsTo u x y R) C - stk x y (worthsTo u x y t) C S := IntWalk.i64_in _ (by omega)
      go_quiet ((go_at_call 70; exact qof (l11Stake_any _ _ _ _ _ _ _ _ S (hrow.sl.drewN _) hx hy HM.out (by omega) (by omega) (by omega))))
      clear w1' w2'
      go_wp2
      go_ret2
      exact ⟨by rw [lossV, lossB, H1.out, Hl.out]; simp [H2.out, HT.out], f1.drew' _⟩

theorem impl_StakeLoss_any (w : World) (a : Option Addr) (n cap : Nat) (u : List Int) (x y r c s : Int) (h : SL w a n cap u) (_ : I64 x) (_ : I64 y) (_ : I64 r) (_ : I64 c) (_ : I64 s) :
    Calls Try.prog 32 #[.slice a n cap, .int .i64 x, .int .i64 y, .int .i64 r, .int .i64 c, .int .i64 s] w fun e w' => e = .returned (.tuple #[.int .i64 (lossV u x y r c s), .bool (lossB u x y r c s)]) ∧ Fr w w' := by
  have Hl := Lib.hid h.len
  cases h1 : coinsB u x y r c
  · have H1 := Lib.hid h1
    go_enter Try.func32, Try.ntmps32
    go_wp2_with (go_at_call 71; refine (canStake_any _ _ _ _ _ _ _ _ _ h).mono ?_; rintro e w' ⟨rfl, rfl⟩)
    go_ret2
    exact ⟨by simp [lossV, lossB, H1.out], Fr.refl _⟩
  · have H1 := Lib.hid h1
    obtain ⟨g1, g2, g3, g4, g5⟩ := coinsB_iff.1 h1
    rw [Hl.out] at g5
    obtain ⟨R, rfl⟩ := Int.eq_ofNat_of_zero_le (show 0 ≤ r by omega)
    obtain ⟨C, rfl⟩ := Int.eq_ofNat_of_zero_le g4
    have hn : n ≤ 13 := by have := (useB_iff.1 g1).2.1; have := h.len; omega
    cases h2 : inB s 0 (mS n C : Nat)
    · have H2 := Lib.hid h2
      go_enter Try.func32, Try.ntmps32
      go_wp2_with (first
        | (go_at_call 71; refine (canStake_any _ _ _ _ _ _ _ _ _ h).mono ?_; rintro e w' ⟨rfl, rfl⟩)
        | (go_at_call 72; refine (mostStake_any _ _ _ _ _ (by omega) (by omega)).mono ?_; rintro e w' ⟨rfl, rfl⟩)
        | (go_at_call 56; refine (within_any _ _ _ _).mono ?_; rintro e w' ⟨rfl, rfl⟩))
      go_ret2
      exact ⟨by simp [lossV, lossB, Hl.out, H2.out], Fr.refl _⟩
    · have H2 := Lib.hid h2
      obtain ⟨k1, k2⟩ := inB_iff.1 h2
      obtain ⟨S, rfl⟩ := Int.eq_ofNat_of_zero_le k1
      have hms : mS n C ≤ C ∧ mS n C ≤ n - 1 - C := by unfold mS; omega
      obtain ⟨hx, hy, _⟩ := luckB_iff.1 g2
      have hbw := worths_bd g1 hx hy R C
      have hb8 := pow8' R (by omega)
      have hstk := stk_bd hx hy (worths_bd4 g1 g2 (R - 1) (by omega)) C S
      have hst2 : stk x y (worthsTo u x y (R - 1)) C S = x * nth (worthsTo u x y (R - 1)) (C + S) + y * nth (worthsTo u x y (R - 1)) (C - S) := rfl
      have hsb : 0 ≤ stk x y (worthsTo u x y (R - 1)) C S ∧ stk x y (worthsTo u x y (R - 1)) C S ≤ 32735232 := by omega
      have hwb : 0 ≤ nth (worthsTo u x y R) C ∧ nth (worthsTo u x y R) C ≤ 32735232 := by omega
      have G1 := Lib.hid g1; have G2 := Lib.hid g2
      clear g1 g2 hst2 hstk hbw hb8
      have hR5 : R ≤ 5 := by omega
      have hR1 : 1 ≤ R ∧ R ≤ 5 := by omega
      have hCS : C + S < n := by omega
      have hSC : S ≤ C := by omega
      have HO : Hid (lossB u x y R C S = true) := Lib.hid (by rw [lossB, h1, Hl.out]; simpa using h2)
      have HV : Hid (lossV u x y R C S = nth (worthsTo u x y R) C - stk x y (worthsTo u x y (R - 1)) C S) := Lib.hid (by rw [lossV, HO.out]; simp)
      go_enter Try.func32, Try.ntmps32
      go_wp2_with (first
        | (go_at_call 71; refine (canStake_any _ _ _ _ _ _ _ _ _ h).mono ?_; rintro e w' ⟨rfl, rfl⟩)
        | (go_at_call 72; refine (mostStake_any _ _ _ _ _ (by omega) (by omega)).mono ?_; rintro e w' ⟨rfl, rfl⟩)
        | (go_at_call 56; refine (within_any _ _ _ _).mono ?_; rintro e w' ⟨rfl, rfl⟩))
      have w2' : IntKind.i64.wrap (nth (worthsTo u x y R) C - stk x y (worthsTo u x y (R - 1)) C S) = nth (worthsTo u x y R) C - stk x y (worthsTo u x y (R - 1)) C S := IntWalk.i64_in _ (by omega)
      have i5 : (0 : Int) ≤ (C : Int) := by omega
      have i6 : (C : Int) < (n : Int) := by omega
      go_region_with (first
        | (go_at_call 73; refine (worths_any _ _ _ _ _ _ _ R (h.drewN 1) G1.out G2.out hR5).mono ?_; rintro e w1 ⟨a1, n1, c1, rfl, o1, f1, m1⟩; have hn1 : n = n1 := (by rw [← o1.len, worthsTo_len, Hl.out]); subst hn1; obtain ⟨b1, rfl, _, _, hc0, _⟩ := o1.op (by omega); have hd := hc0 C (by omega); clear hc0)
        | (go_at_call 74; refine (staked_any _ _ _ _ _ _ _ R C S ((h.drewN 1).fr f1) G1.out G2.out hR1 hCS hSC).mono ?_; rintro e w2 ⟨rfl, f2⟩; have hd2 := f2.keep hd))
      all_goals
        clear w2'
        go_wp2
        go_ret2
        exact ⟨by rw [HV.out, HO.out]; rfl, ((Fr.refl w).drew' 1).trans (f1.trans f2)⟩

end Go.Proofs.Ytfdidelonilnmaa
