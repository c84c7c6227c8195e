import Derived.Test.YtfdidelonilnmaaUseTab
/- Contracts of UseStake and StakePlan. -/
set_option linter.unusedVariables false
namespace Go.Proofs.Ytfdidelonilnmaa
open Go.ChangeShapes Go.WideShapes Go.ChangeAt Go.RowKit

def coinsB (u : List Int) (x y r c : Int) : Bool := useB u && luckB x y && inB r 1 5 && inB c 0 ((u.length : Int) - 1)
theorem coinsB_iff {u : List Int} {x y r c : Int} : coinsB u x y r c = true ↔ useB u = true ∧ luckB x y = true ∧ (1 ≤ r ∧ r ≤ 5) ∧ 0 ≤ c ∧ c ≤ (u.length : Int) - 1 := by simp [coinsB, inB_iff, and_assoc]

theorem canStake_any (w : World) (a : Option Addr) (n cap : Nat) (u : List Int) (x y r c : Int) (h : SL w a n cap u) :
    Calls Try.prog 71 #[.slice a n cap, .int .i64 x, .int .i64 y, .int .i64 r, .int .i64 c] w fun e w' => e = .returned (.bool (coinsB u x y r c)) ∧ w = w' := by
  have Hl := Lib.hid h.len
  have hm : n ≤ 9223372036854775807 := by have := h.le; have := h.mx; omega
  cases h1 : useB u <;> cases h2 : luckB x y <;> cases h3 : inB r 1 5
  all_goals
    have H1 := Lib.hid h1
    have H2 := Lib.hid h2
    have H3 := Lib.hid h3
    go_enter Try.func71, Try.ntmps71
    go_wp2_with (first
      | (go_at_call 17; refine (impl_IsUse_any _ _ _ _ _ h).mono ?_; rintro e w' ⟨rfl, rfl⟩)
      | (go_at_call 61; refine (isLuck_any _ _ _).mono ?_; rintro e w' ⟨rfl, rfl⟩)
      | (go_at_call 56; refine (within_any _ _ _ _).mono ?_; rintro e w' ⟨rfl, rfl⟩))
    go_ret
    exact ⟨ret_bool (by rw [coinsB, Hl.out, H1.out, H2.out, H3.out]; rfl), rfl⟩

theorem l11Coins_any (w : World) (a : Option Addr) (n cap : Nat) (u : List Int) (x y r c : Int) (h : SL w a n cap u) :
    Calls Try.prog 68 #[.slice a n cap, .int .i64 x, .int .i64 y, .int .i64 r, .int .i64 c] w fun e w' => e = .returned (.bool (coinsB u x y r c)) ∧ w = w' := by
  have Hl := Lib.hid h.len
  have hm : n ≤ 9223372036854775807 := by have := h.le; have := h.mx; omega
  have HE : Hid (coinsB u x y r c = (roundsB u x y r && decide (0 < r) && inB c 0 ((n : Int) - 1))) := by
    unfold Hid
    rw [Bool.eq_iff_iff, coinsB_iff, Hl.out]
    simp only [Bool.and_eq_true, roundsB_iff, decide_eq_true_eq, inB_iff]
    exact ⟨fun ⟨a1, a2, a3, a4, a5⟩ => ⟨⟨⟨a1, a2, by omega, by omega⟩, by omega⟩, a4, a5⟩, fun ⟨⟨⟨a1, a2, a3, a4⟩, a5⟩, a6, a7⟩ => ⟨a1, a2, ⟨by omega, by omega⟩, a6, a7⟩⟩
  cases h1 : roundsB u x y r <;> cases h2 : decide (0 < r)
  all_goals
    have H1 := Lib.hid h1
    have H2 := Lib.hid h2
    simp only [decide_eq_true_eq, decide_eq_false_iff_not] at h2
    go_enter Try.func68, Try.ntmps68
    go_wp2_with (first
      | (go_at_call 77; refine (l11Rounds_any _ _ _ _ _ _ _ _ h).mono ?_; rintro e w' ⟨rfl, rfl⟩)
      | (go_at_call 58; refine (l1In_any _ _ _ _).mono ?_; rintro e w' ⟨rfl, rfl⟩))
    go_ret
    exact ⟨ret_bool (by rw [HE.out, H1.out, H2.out]; rfl), rfl⟩

def stakeV (u : List Int) (x y r c : Int) : Int := bif coinsB u x y r c then (bArg x y (worthsTo u x y (r.toNat - 1)) c.toNat (mS u.length c.toNat + 1) : Nat) else 0

theorem impl_UseStake_any (w : World) (a : Option Addr) (n cap : Nat) (u : List Int) (x y r c : Int) (h : SL w a n cap u) (_ : I64 x) (_ : I64 y) (_ : I64 r) (_ : I64 c) :
    Calls Try.prog 34 #[.slice a n cap, .int .i64 x, .int .i64 y, .int .i64 r, .int .i64 c] w fun e w' => e = .returned (.tuple #[.int .i64 (stakeV u x y r c), .bool (coinsB u x y r c)]) ∧ Fr w w' := by
  have Hl := Lib.hid h.len
  cases h1 : coinsB u x y r c
  · have H1 := Lib.hid h1
    go_enter Try.func34, Try.ntmps34
    go_wp2_with (go_at_call 71; refine (canStake_any _ _ _ _ _ _ _ _ _ h).mono ?_; rintro e w' ⟨rfl, rfl⟩)
    go_ret2
    exact ⟨by simp [stakeV, H1.out], Fr.refl _⟩
  · have H1 := Lib.hid h1
    obtain ⟨g1, g2, g3, g4, g5⟩ := coinsB_iff.1 h1
    rw [Hl.out] at g5
    obtain ⟨R, rfl⟩ := Int.eq_ofNat_of_zero_le (show 0 ≤ r by omega)
    obtain ⟨C, rfl⟩ := Int.eq_ofNat_of_zero_le g4
    have G1 := Lib.hid g1; have G2 := Lib.hid g2
    clear g1 g2
    go_enter Try.func34, Try.ntmps34
    go_wp2_with (go_at_call 71; refine (canStake_any _ _ _ _ _ _ _ _ _ h).mono ?_; rintro e w' ⟨rfl, rfl⟩)
    refine (bestStake_any _ _ _ _ _ _ _ R C h G1.out G2.out (by omega) (by omega)).mono ?_
    rintro e w1 ⟨rfl, f1⟩
    go_wp2
    go_ret2
    exact ⟨by simp [stakeV, H1.out, Hl.out], f1⟩

theorem spec_UseStake_any (w : World) (a : Option Addr) (n cap : Nat) (u : List Int) (x y r c : Int) (h : SL w a n cap u) (_ : I64 x) (_ : I64 y) (_ : I64 r) (_ : I64 c) :
    Calls Try.prog 33 #[.slice a n cap, .int .i64 x, .int .i64 y, .int .i64 r, .int .i64 c] w fun e w' => e = .returned (.tuple #[.int .i64 (stakeV u x y r c), .bool (coinsB u x y r c)]) ∧ Fr w w' := by
  have Hl := Lib.hid h.len
  cases h1 : coinsB u x y r c
  · have H1 := Lib.hid h1
    go_enter Try.func33, Try.ntmps33
    go_wp2_with (go_at_call 68; refine (l11Coins_any _ _ _ _ _ _ _ _ _ h).mono ?_; rintro e w' ⟨rfl, rfl⟩)
    go_ret2
    exact ⟨by simp [stakeV, H1.out], Fr.refl _⟩
  · have H1 := Lib.hid h1
    obtain ⟨g1, g2, g3, g4, g5⟩ := coinsB_iff.1 h1
    rw [Hl.out] at g5
    obtain ⟨R, rfl⟩ := Int.eq_ofNat_of_zero_le (show 0 ≤ r by omega)
    obtain ⟨C, rfl⟩ := Int.eq_ofNat_of_zero_le g4
    have hn : n ≤ 13 := by have := (useB_iff.1 g1).2.1; have := h.len; omega
    obtain ⟨t, ht⟩ : ∃ t, R = t + 1 := ⟨R - 1, by omega⟩
    have HT := Lib.hid ht
    have ht' : (R : Int) - 1 = (t : Int) := by omega
    clear ht
    have HM := Lib.hid (worths_bd4 g1 g2 t (by omega))
    obtain ⟨hx, hy, _⟩ := luckB_iff.1 g2
    have G1 := Lib.hid g1; have G2 := Lib.hid g2
    clear g1 g2
    go_enter Try.func33, Try.ntmps33
    go_wp2_with (go_at_call 68; refine (l11Coins_any _ _ _ _ _ _ _ _ _ h).mono ?_; rintro e w' ⟨rfl, rfl⟩)
    refine (l11Table_any _ _ _ _ _ _ _ t h G1.out G2.out (by omega)).mono ?_
    rintro e w1 ⟨a1, n1, c1, rfl, o1, f1, t1, m1⟩
    have hn1 : n1 = t + 1 := by rw [← o1.len, tabM_len]
    subst hn1
    obtain ⟨g, p3, m3, c3, rfl, hcell, hrow, _, _, _⟩ := o1.rowAt (i := t) (by omega)
    rw [tabM_at _ _ _ _ _ (by omega)] at hrow
    have hm3 : m3 = n := by rw [← hrow.len, worthsTo_len, Hl.out]
    subst hm3
    go_wp2_with fail
    refine (l11Best_any _ _ _ _ _ _ _ _ hrow.sl hx hy HM.out (by omega) (by omega)).mono ?_
    rintro e w2 ⟨rfl, q2⟩
    go_wp2
    go_ret2
    exact ⟨by rw [stakeV, H1.out]; simp [Hl.out, HT.out], f1.trans q2.fr⟩

end Go.Proofs.Ytfdidelonilnmaa
