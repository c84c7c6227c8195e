import Derived.Test.YtfjonnpaoeillaaLists
/- Contracts of chapter 11's bets and shares. -/
set_option linter.unusedVariables false
namespace Go.Proofs.Ytfjonnpaoeillaa
open Go.ChangeShapes Go.WideShapes Go.ChangeAt Go.RowKit

def luckB (w l : Int) : Bool := inB w 0 4 && inB l 0 4 && decide (0 < w + l)
theorem luckB_iff {w l : Int} : luckB w l = true ↔ (0 ≤ w ∧ w ≤ 4) ∧ (0 ≤ l ∧ l ≤ 4) ∧ 0 < w + l := by
  simp [luckB, inB_iff, and_assoc]

theorem isLuck_any (a b : Int) (w : World) :
    Calls Try.prog 60 #[.int .i64 a, .int .i64 b] w fun e w' => e = .returned (.bool (luckB a b)) ∧ w = w' := by
  cases h1 : inB a 0 4 with
  | false =>
    have H1 := Lib.hid h1
    go_enter Try.func60, Try.ntmps60
    go_wp2_with (go_at_call 39; refine (within_any _ _ _ _).mono ?_; rintro e w' ⟨rfl, rfl⟩)
    go_ret
    exact ⟨ret_bool (by rw [luckB, H1.out]; rfl), rfl⟩
  | true =>
    have H1 := Lib.hid h1
    have := inB_iff.1 h1
    cases h2 : inB b 0 4 with
    | false =>
      have H2 := Lib.hid h2
      go_enter Try.func60, Try.ntmps60
      go_wp2_with (go_at_call 39; refine (within_any _ _ _ _).mono ?_; rintro e w' ⟨rfl, rfl⟩)
      go_ret
      exact ⟨ret_bool (by rw [luckB, H1.out, H2.out]; rfl), rfl⟩
    | true =>
      have H2 := Lib.hid h2
      have := inB_iff.1 h2
      go_enter Try.func60, Try.ntmps60
      go_wp2_with (go_at_call 39; refine (within_any _ _ _ _).mono ?_; rintro e w' ⟨rfl, rfl⟩)
      go_ret
      exact ⟨ret_bool (by rw [luckB, H1.out, H2.out]; simp), rfl⟩

theorem l11Luck_any (a b : Int) (w : World) :
    Calls Try.prog 59 #[.int .i64 a, .int .i64 b] w fun e w' => e = .returned (.bool (luckB a b)) ∧ w = w' := by
  cases h1 : inB a 0 4 with
  | false =>
    have H1 := Lib.hid h1
    go_enter Try.func59, Try.ntmps59
    go_wp2_with (go_at_call 37; refine (l1In_any _ _ _ _).mono ?_; rintro e w' ⟨rfl, rfl⟩)
    go_ret
    exact ⟨ret_bool (by rw [luckB, H1.out]; rfl), rfl⟩
  | true =>
    have H1 := Lib.hid h1
    have := inB_iff.1 h1
    cases h2 : inB b 0 4 with
    | false =>
      have H2 := Lib.hid h2
      go_enter Try.func59, Try.ntmps59
      go_wp2_with (go_at_call 37; refine (l1In_any _ _ _ _).mono ?_; rintro e w' ⟨rfl, rfl⟩)
      go_ret
      exact ⟨ret_bool (by rw [luckB, H1.out, H2.out]; rfl), rfl⟩
    | true =>
      have H2 := Lib.hid h2
      have := inB_iff.1 h2
      go_enter Try.func59, Try.ntmps59
      go_wp2_with (go_at_call 37; refine (l1In_any _ _ _ _).mono ?_; rintro e w' ⟨rfl, rfl⟩)
      go_ret
      exact ⟨ret_bool (by rw [luckB, H1.out, H2.out]; simp), rfl⟩

def betB (a b w l : Int) : Bool := inB a 1 9 && inB b 1 9 && luckB w l
theorem betB_iff {a b w l : Int} : betB a b w l = true ↔ (1 ≤ a ∧ a ≤ 9) ∧ (1 ≤ b ∧ b ≤ 9) ∧ (0 ≤ w ∧ w ≤ 4) ∧ (0 ≤ l ∧ l ≤ 4) ∧ 0 < w + l := by
  simp [betB, inB_iff, luckB_iff, and_assoc]

theorem isBet_any (a b x y : Int) (w : World) :
    Calls Try.prog 35 #[.int .i64 a, .int .i64 b, .int .i64 x, .int .i64 y] w fun e w' => e = .returned (.bool (betB a b x y)) ∧ w = w' := by
  cases h1 : inB a 1 9 with
  | false =>
    have H1 := Lib.hid h1
    go_enter Try.func35, Try.ntmps35
    go_wp2_with (go_at_call 39; refine (within_any _ _ _ _).mono ?_; rintro e w' ⟨rfl, rfl⟩)
    go_ret
    exact ⟨ret_bool (by rw [betB, H1.out]; rfl), rfl⟩
  | true =>
    have H1 := Lib.hid h1
    cases h2 : inB b 1 9 with
    | false =>
      have H2 := Lib.hid h2
      go_enter Try.func35, Try.ntmps35
      go_wp2_with (go_at_call 39; refine (within_any _ _ _ _).mono ?_; rintro e w' ⟨rfl, rfl⟩)
      go_ret
      exact ⟨ret_bool (by rw [betB, H1.out, H2.out]; rfl), rfl⟩
    | true =>
      have H2 := Lib.hid h2
      go_enter Try.func35, Try.ntmps35
      go_wp2_with (first
        | (go_at_call 39; refine (within_any _ _ _ _).mono ?_; rintro e w' ⟨rfl, rfl⟩)
        | (go_at_call 60; refine (isLuck_any _ _ _).mono ?_; rintro e w' ⟨rfl, rfl⟩))
      go_ret
      exact ⟨ret_bool (by rw [betB, H1.out, H2.out]; simp), rfl⟩

theorem l11Bet_any (a b x y : Int) (w : World) :
    Calls Try.prog 34 #[.int .i64 a, .int .i64 b, .int .i64 x, .int .i64 y] w fun e w' => e = .returned (.bool (betB a b x y)) ∧ w = w' := by
  cases h1 : inB a 1 9 with
  | false =>
    have H1 := Lib.hid h1
    go_enter Try.func34, Try.ntmps34
    go_wp2_with (go_at_call 37; refine (l1In_any _ _ _ _).mono ?_; rintro e w' ⟨rfl, rfl⟩)
    go_ret
    exact ⟨ret_bool (by rw [betB, H1.out]; rfl), rfl⟩
  | true =>
    have H1 := Lib.hid h1
    cases h2 : inB b 1 9 with
    | false =>
      have H2 := Lib.hid h2
      go_enter Try.func34, Try.ntmps34
      go_wp2_with (go_at_call 37; refine (l1In_any _ _ _ _).mono ?_; rintro e w' ⟨rfl, rfl⟩)
      go_ret
      exact ⟨ret_bool (by rw [betB, H1.out, H2.out]; rfl), rfl⟩
    | true =>
      have H2 := Lib.hid h2
      go_enter Try.func34, Try.ntmps34
      go_wp2_with (first
        | (go_at_call 37; refine (l1In_any _ _ _ _).mono ?_; rintro e w' ⟨rfl, rfl⟩)
        | (go_at_call 59; refine (l11Luck_any _ _ _).mono ?_; rintro e w' ⟨rfl, rfl⟩))
      go_ret
      exact ⟨ret_bool (by rw [betB, H1.out, H2.out]; simp), rfl⟩

/-- a to the power of k, as the machine reckons it. -/
def powW (a : Int) : Nat → Int
  | 0 => 1
  | k + 1 => wrap64 (powW a k * a)

theorem power_any (a n : Int) (w : World) (hn : n ≤ 9223372036854775807) :
    Calls Try.prog 62 #[.int .i64 a, .int .i64 n] w fun e w' => e = .returned (.int .i64 (powW a n.toNat)) ∧ w = w' := by
  go_enter Try.func62, Try.ntmps62
  go_wp2
  go_loop [5, 7] (fun o i => ∃ k : Nat, k ≤ n.toNat ∧ i = .int .i64 k ∧ o = .int .i64 (powW a k)) (fun _ i => n.toNat - (intOf i).toNat)
  case atStart => exact ⟨0, Nat.zero_le _, rfl, rfl⟩
  case round =>
    obtain ⟨k, hk, rfl, rfl⟩ := hrel
    by_cases hlt : (k : Int) < n
    · go_wp2
      go_round
      case rel => exact ⟨k + 1, by omega, by go_num, rfl⟩
      case measure => simp [intOf]; omega
    · go_wp2
      go_ret
      exact ⟨ret_int (by rw [show k = n.toNat by omega]), rfl⟩

theorem l6Power_any (a n : Int) (w : World) (hn : n ≤ 9223372036854775807) :
    Calls Try.prog 61 #[.int .i64 a, .int .i64 n] w fun e w' => e = .returned (.int .i64 (powW a n.toNat)) ∧ w = w' := by
  go_enter Try.func61, Try.ntmps61
  go_wp2
  go_loop [5, 6] (fun o i => ∃ k : Nat, k ≤ n.toNat ∧ i = .int .i64 k ∧ o = .int .i64 (powW a k)) (fun _ i => n.toNat - (intOf i).toNat)
  case atStart => exact ⟨0, Nat.zero_le _, rfl, rfl⟩
  case round =>
    obtain ⟨k, hk, rfl, rfl⟩ := hrel
    by_cases hlt : (k : Int) < n
    · go_wp2
      go_round
      case rel => exact ⟨k + 1, by omega, by go_num, rfl⟩
      case measure => simp [intOf]; omega
    · go_wp2
      go_ret
      exact ⟨ret_int (by rw [show k = n.toNat by omega]), rfl⟩

/-- The growth of a share, as the machine reckons it. -/
def growW (a b x y n k : Int) : Int := wrap64 (powW (n * b + k * a) x.toNat * powW (n - k) y.toNat)

theorem growth_any (a b x y n k : Int) (w : World) (ha : 0 ≤ a ∧ a ≤ 9) (hb : 0 ≤ b ∧ b ≤ 9) (hx : 0 ≤ x ∧ x ≤ 4) (hy : 0 ≤ y ∧ y ≤ 4) (hn : 0 ≤ n ∧ n ≤ 10) (hk : 0 ≤ k ∧ k ≤ n) :
    Calls Try.prog 40 #[.int .i64 a, .int .i64 b, .int .i64 x, .int .i64 y, .int .i64 n, .int .i64 k] w fun e w' => e = .returned (.int .i64 (growW a b x y n k)) ∧ w = w' := by
  have h1 : 0 ≤ n * b ∧ n * b ≤ 90 := ⟨Int.mul_nonneg hn.1 hb.1, by have := Int.mul_le_mul hn.2 hb.2 hb.1 (by omega : (0 : Int) ≤ 10); omega⟩
  have h2 : 0 ≤ k * a ∧ k * a ≤ 90 := ⟨Int.mul_nonneg hk.1 ha.1, by have := Int.mul_le_mul (show k ≤ 10 by omega) ha.2 ha.1 (by omega : (0 : Int) ≤ 10); omega⟩
  go_enter Try.func40, Try.ntmps40
  go_wp2_with fail
  refine (power_any _ _ _ (by omega)).mono ?_
  rintro e w' ⟨rfl, rfl⟩
  go_wp2_with fail
  refine (power_any _ _ _ (by omega)).mono ?_
  rintro e w' ⟨rfl, rfl⟩
  go_wp2
  go_ret
  exact ⟨rfl, rfl⟩

theorem l11Growth_any (a b x y n k : Int) (w : World) (ha : 0 ≤ a ∧ a ≤ 9) (hb : 0 ≤ b ∧ b ≤ 9) (hx : 0 ≤ x ∧ x ≤ 4) (hy : 0 ≤ y ∧ y ≤ 4) (hn : 0 ≤ n ∧ n ≤ 10) (hk : 0 ≤ k ∧ k ≤ n) :
    Calls Try.prog 38 #[.int .i64 a, .int .i64 b, .int .i64 x, .int .i64 y, .int .i64 n, .int .i64 k] w fun e w' => e = .returned (.int .i64 (growW a b x y n k)) ∧ w = w' := by
  have h1 : 0 ≤ n * b ∧ n * b ≤ 90 := ⟨Int.mul_nonneg hn.1 hb.1, by have := Int.mul_le_mul hn.2 hb.2 hb.1 (by omega : (0 : Int) ≤ 10); omega⟩
  have h2 : 0 ≤ k * a ∧ k * a ≤ 90 := ⟨Int.mul_nonneg hk.1 ha.1, by have := Int.mul_le_mul (show k ≤ 10 by omega) ha.2 ha.1 (by omega : (0 : Int) ≤ 10); omega⟩
  go_enter Try.func38, Try.ntmps38
  go_wp2_with fail
  refine (l6Power_any _ _ _ (by omega)).mono ?_
  rintro e w' ⟨rfl, rfl⟩
  go_wp2_with fail
  refine (l6Power_any _ _ _ (by omega)).mono ?_
  rintro e w' ⟨rfl, rfl⟩
  go_wp2
  go_ret
  exact ⟨rfl, rfl⟩

def shareOk (a b x y n k : Int) : Bool := betB a b x y && inB n 1 10 && inB k 0 n
def growV (a b x y n k : Int) : Int := bif shareOk a b x y n k then growW a b x y n k else 0

theorem impl_GrowthOf_any (w : World) (a b x y n k : Int) (_ : I64 a) (_ : I64 b) (_ : I64 x) (_ : I64 y) (_ : I64 n) (_ : I64 k) :
    Calls Try.prog 13 #[.int .i64 a, .int .i64 b, .int .i64 x, .int .i64 y, .int .i64 n, .int .i64 k] w fun e w' => e = .returned (.tuple #[.int .i64 (growV a b x y n k), .bool (shareOk a b x y n k)]) ∧ Fr w w' := by
  cases h1 : betB a b x y with
  | false =>
    have H1 := Lib.hid h1
    go_enter Try.func13, Try.ntmps13
    go_wp2_with (first
      | (go_at_call 35; refine (isBet_any _ _ _ _ _).mono ?_; rintro e w' ⟨rfl, rfl⟩)
      | (go_at_call 39; refine (within_any _ _ _ _).mono ?_; rintro e w' ⟨rfl, rfl⟩))
    go_ret2
    exact ⟨by simp [growV, shareOk, H1.out], Fr.refl _⟩
  | true =>
    have H1 := Lib.hid h1
    cases h2 : inB n 1 10 with
    | false =>
      have H2 := Lib.hid h2
      go_enter Try.func13, Try.ntmps13
      go_wp2_with (first
        | (go_at_call 35; refine (isBet_any _ _ _ _ _).mono ?_; rintro e w' ⟨rfl, rfl⟩)
        | (go_at_call 39; refine (within_any _ _ _ _).mono ?_; rintro e w' ⟨rfl, rfl⟩))
      go_ret2
      exact ⟨by simp [growV, shareOk, H1.out, H2.out], Fr.refl _⟩
    | true =>
      have H2 := Lib.hid h2
      cases h3 : inB k 0 n with
      | false =>
        have H3 := Lib.hid h3
        go_enter Try.func13, Try.ntmps13
        go_wp2_with (first
          | (go_at_call 35; refine (isBet_any _ _ _ _ _).mono ?_; rintro e w' ⟨rfl, rfl⟩)
          | (go_at_call 39; refine (within_any _ _ _ _).mono ?_; rintro e w' ⟨rfl, rfl⟩))
        go_ret2
        exact ⟨by simp [growV, shareOk, H1.out, H2.out, H3.out], Fr.refl _⟩
      | true =>
        have H3 := Lib.hid h3
        have b1 := betB_iff.1 h1
        have b2 := inB_iff.1 h2
        have b3 := inB_iff.1 h3
        go_enter Try.func13, Try.ntmps13
        go_wp2_with (first
          | (go_at_call 35; refine (isBet_any _ _ _ _ _).mono ?_; rintro e w' ⟨rfl, rfl⟩)
          | (go_at_call 39; refine (within_any _ _ _ _).mono ?_; rintro e w' ⟨rfl, rfl⟩)
          | (go_at_call 40; refine (growth_any _ _ _ _ _ _ _ (by omega) (by omega) (by omega) (by omega) (by omega) (by omega)).mono ?_; rintro e w' ⟨rfl, rfl⟩))
        go_ret2
        exact ⟨by simp [growV, shareOk, H1.out, H2.out, H3.out], Fr.refl _⟩

theorem spec_GrowthOf_any (w : World) (a b x y n k : Int) (_ : I64 a) (_ : I64 b) (_ : I64 x) (_ : I64 y) (_ : I64 n) (_ : I64 k) :
    Calls Try.prog 12 #[.int .i64 a, .int .i64 b, .int .i64 x, .int .i64 y, .int .i64 n, .int .i64 k] w fun e w' => e = .returned (.tuple #[.int .i64 (growV a b x y n k), .bool (shareOk a b x y n k)]) ∧ Fr w w' := by
  cases h1 : betB a b x y with
  | false =>
    have H1 := Lib.hid h1
    go_enter Try.func12, Try.ntmps12
    go_wp2_with (first
      | (go_at_call 34; refine (l11Bet_any _ _ _ _ _).mono ?_; rintro e w' ⟨rfl, rfl⟩)
      | (go_at_call 37; refine (l1In_any _ _ _ _).mono ?_; rintro e w' ⟨rfl, rfl⟩))
    go_ret2
    exact ⟨by simp [growV, shareOk, H1.out], Fr.refl _⟩
  | true =>
    have H1 := Lib.hid h1
    cases h2 : inB n 1 10 with
    | false =>
      have H2 := Lib.hid h2
      go_enter Try.func12, Try.ntmps12
      go_wp2_with (first
        | (go_at_call 34; refine (l11Bet_any _ _ _ _ _).mono ?_; rintro e w' ⟨rfl, rfl⟩)
        | (go_at_call 37; refine (l1In_any _ _ _ _).mono ?_; rintro e w' ⟨rfl, rfl⟩))
      go_ret2
      exact ⟨by simp [growV, shareOk, H1.out, H2.out], Fr.refl _⟩
    | true =>
      have H2 := Lib.hid h2
      cases h3 : inB k 0 n with
      | false =>
        have H3 := Lib.hid h3
        go_enter Try.func12, Try.ntmps12
        go_wp2_with (first
          | (go_at_call 34; refine (l11Bet_any _ _ _ _ _).mono ?_; rintro e w' ⟨rfl, rfl⟩)
          | (go_at_call 37; refine (l1In_any _ _ _ _).mono ?_; rintro e w' ⟨rfl, rfl⟩))
        go_ret2
        exact ⟨by simp [growV, shareOk, H1.out, H2.out, H3.out], Fr.refl _⟩
      | true =>
        have H3 := Lib.hid h3
        have b1 := betB_iff.1 h1
        have b2 := inB_iff.1 h2
        have b3 := inB_iff.1 h3
        go_enter Try.func12, Try.ntmps12
        go_wp2_with (first
          | (go_at_call 34; refine (l11Bet_any _ _ _ _ _).mono ?_; rintro e w' ⟨rfl, rfl⟩)
          | (go_at_call 37; refine (l1In_any _ _ _ _).mono ?_; rintro e w' ⟨rfl, rfl⟩)
          | (go_at_call 38; refine (l11Growth_any _ _ _ _ _ _ _ (by omega) (by omega) (by omega) (by omega) (by omega) (by omega)).mono ?_; rintro e w' ⟨rfl, rfl⟩))
        go_ret2
        exact ⟨by simp [growV, shareOk, H1.out, H2.out, H3.out], Fr.refl _⟩

/-- The least share of 0..k with the greatest growth. -/
def bestTo (a b x y n : Int) : Nat → Nat
  | 0 => 0
  | k + 1 => if growW a b x y n (bestTo a b x y n k) < growW a b x y n ((k : Int) + 1) then k + 1 else bestTo a b x y n k
theorem bestTo_le (a b x y n : Int) (k : Nat) : bestTo a b x y n k ≤ k := by
  induction k with
  | zero => exact Nat.le_refl _
  | succ k ih => unfold bestTo; split <;> omega
theorem bestTo_yes {a b x y n : Int} {k : Nat} (h : growW a b x y n (bestTo a b x y n k) < growW a b x y n ((k : Int) + 1)) : bestTo a b x y n (k + 1) = k + 1 := by
  rw [bestTo, if_pos h]
theorem bestTo_no {a b x y n : Int} {k : Nat} (h : ¬ growW a b x y n (bestTo a b x y n k) < growW a b x y n ((k : Int) + 1)) : bestTo a b x y n (k + 1) = bestTo a b x y n k := by
  rw [bestTo, if_neg h]
def bestOk (a b x y n : Int) : Bool := betB a b x y && inB n 1 10
def bestV (a b x y n : Int) : Int := bif bestOk a b x y n then (bestTo a b x y n n.toNat : Nat) else 0

theorem impl_BestShare_any (w : World) (a b x y n : Int) (_ : I64 a) (_ : I64 b) (_ : I64 x) (_ : I64 y) (_ : I64 n) :
    Calls Try.prog 15 #[.int .i64 a, .int .i64 b, .int .i64 x, .int .i64 y, .int .i64 n] w fun e w' => e = .returned (.tuple #[.int .i64 (bestV a b x y n), .bool (bestOk a b x y n)]) ∧ Fr w w' := by
  cases h1 : betB a b x y with
  | false =>
    have H1 := Lib.hid h1
    go_enter Try.func15, Try.ntmps15
    go_wp2_with (first
      | (go_at_call 35; refine (isBet_any _ _ _ _ _).mono ?_; rintro e w' ⟨rfl, rfl⟩)
      | (go_at_call 39; refine (within_any _ _ _ _).mono ?_; rintro e w' ⟨rfl, rfl⟩))
    go_ret2
    exact ⟨by simp [bestV, bestOk, H1.out], Fr.refl _⟩
  | true =>
    have H1 := Lib.hid h1
    cases h2 : inB n 1 10 with
    | false =>
      have H2 := Lib.hid h2
      go_enter Try.func15, Try.ntmps15
      go_wp2_with (first
        | (go_at_call 35; refine (isBet_any _ _ _ _ _).mono ?_; rintro e w' ⟨rfl, rfl⟩)
        | (go_at_call 39; refine (within_any _ _ _ _).mono ?_; rintro e w' ⟨rfl, rfl⟩))
      go_ret2
      exact ⟨by simp [bestV, bestOk, H1.out, H2.out], Fr.refl _⟩
    | true =>
      have H2 := Lib.hid h2
      have b1 := betB_iff.1 h1
      have b2 := inB_iff.1 h2
      go_enter Try.func15, Try.ntmps15
      go_wp2_with (first
        | (go_at_call 35; refine (isBet_any _ _ _ _ _).mono ?_; rintro e w' ⟨rfl, rfl⟩)
        | (go_at_call 39; refine (within_any _ _ _ _).mono ?_; rintro e w' ⟨rfl, rfl⟩))
      clear h1 h2
      obtain ⟨N, rfl⟩ := Int.eq_ofNat_of_zero_le (show 0 ≤ n by omega)
      go_loop [12, 13] (fun q i => ∃ j : Nat, j ≤ N ∧ i = .int .i64 ((j : Int) + 1) ∧ q = .int .i64 (bestTo a b x y N j : Nat)) (fun _ i => N + 1 - (intOf i).toNat)
      case atStart => exact ⟨0, Nat.zero_le _, rfl, rfl⟩
      case round =>
        obtain ⟨j, hj, rfl, rfl⟩ := hrel
        have hle := bestTo_le a b x y N j
        by_cases hlt : j < N
        · by_cases hc : growW a b x y N (bestTo a b x y N j : Nat) < growW a b x y N ((j : Int) + 1)
          · have HC := Lib.hid (bestTo_yes hc)
            go_wp2_with (go_at_call 40; refine (growth_any _ _ _ _ _ _ _ (by omega) (by omega) (by omega) (by omega) (by omega) (by omega)).mono ?_; rintro e w' ⟨rfl, rfl⟩)
            go_round
            case rel => exact ⟨j + 1, by omega, by go_num, by rw [HC.out]; go_num⟩
            case measure => simp [intOf]; omega
          · have HC := Lib.hid (bestTo_no hc)
            go_wp2_with (go_at_call 40; refine (growth_any _ _ _ _ _ _ _ (by omega) (by omega) (by omega) (by omega) (by omega) (by omega)).mono ?_; rintro e w' ⟨rfl, rfl⟩)
            go_round
            case rel => exact ⟨j + 1, by omega, by go_num, by rw [HC.out]⟩
            case measure => simp [intOf]; omega
        · have : j = N := by omega
          subst this
          go_wp2
          go_ret2
          exact ⟨by simp [bestV, bestOk, H1.out, H2.out], Fr.refl _⟩

theorem spec_BestShare_any (w : World) (a b x y n : Int) (_ : I64 a) (_ : I64 b) (_ : I64 x) (_ : I64 y) (_ : I64 n) :
    Calls Try.prog 14 #[.int .i64 a, .int .i64 b, .int .i64 x, .int .i64 y, .int .i64 n] w fun e w' => e = .returned (.tuple #[.int .i64 (bestV a b x y n), .bool (bestOk a b x y n)]) ∧ Fr w w' := by
  cases h1 : betB a b x y with
  | false =>
    have H1 := Lib.hid h1
    go_enter Try.func14, Try.ntmps14
    go_wp2_with (first
      | (go_at_call 34; refine (l11Bet_any _ _ _ _ _).mono ?_; rintro e w' ⟨rfl, rfl⟩)
      | (go_at_call 37; refine (l1In_any _ _ _ _).mono ?_; rintro e w' ⟨rfl, rfl⟩))
    go_ret2
    exact ⟨by simp [bestV, bestOk, H1.out], Fr.refl _⟩
  | true =>
    have H1 := Lib.hid h1
    cases h2 : inB n 1 10 with
    | false =>
      have H2 := Lib.hid h2
      go_enter Try.func14, Try.ntmps14
      go_wp2_with (first
        | (go_at_call 34; refine (l11Bet_any _ _ _ _ _).mono ?_; rintro e w' ⟨rfl, rfl⟩)
        | (go_at_call 37; refine (l1In_any _ _ _ _).mono ?_; rintro e w' ⟨rfl, rfl⟩))
      go_ret2
      exact ⟨by simp [bestV, bestOk, H1.out, H2.out], Fr.refl _⟩
    | true =>
      have H2 := Lib.hid h2
      have b1 := betB_iff.1 h1
      have b2 := inB_iff.1 h2
      go_enter Try.func14, Try.ntmps14
      go_wp2_with (first
        | (go_at_call 34; refine (l11Bet_any _ _ _ _ _).mono ?_; rintro e w' ⟨rfl, rfl⟩)
        | (go_at_call 37; refine (l1In_any _ _ _ _).mono ?_; rintro e w' ⟨rfl, rfl⟩))
      clear h1 h2
      obtain ⟨N, rfl⟩ := Int.eq_ofNat_of_zero_le (show 0 ≤ n by omega)
      go_loop [12, 13] (fun q i => ∃ j : Nat, j ≤ N ∧ i = .int .i64 ((j : Int) + 1) ∧ q = .int .i64 (bestTo a b x y N j : Nat)) (fun _ i => N + 1 - (intOf i).toNat)
      case atStart => exact ⟨0, Nat.zero_le _, rfl, rfl⟩
      case round =>
        obtain ⟨j, hj, rfl, rfl⟩ := hrel
        have hle := bestTo_le a b x y N j
        by_cases hlt : j < N
        · by_cases hc : growW a b x y N (bestTo a b x y N j : Nat) < growW a b x y N ((j : Int) + 1)
          · have HC := Lib.hid (bestTo_yes hc)
            go_wp2_with (go_at_call 38; refine (l11Growth_any _ _ _ _ _ _ _ (by omega) (by omega) (by omega) (by omega) (by omega) (by omega)).mono ?_; rintro e w' ⟨rfl, rfl⟩)
            go_round
            case rel => exact ⟨j + 1, by omega, by go_num, by rw [HC.out]; go_num⟩
            case measure => simp [intOf]; omega
          · have HC := Lib.hid (bestTo_no hc)
            go_wp2_with (go_at_call 38; refine (l11Growth_any _ _ _ _ _ _ _ (by omega) (by omega) (by omega) (by omega) (by omega) (by omega)).mono ?_; rintro e w' ⟨rfl, rfl⟩)
            go_round
            case rel => exact ⟨j + 1, by omega, by go_num, by rw [HC.out]⟩
            case measure => simp [intOf]; omega
        · have : j = N := by omega
          subst this
          go_wp2
          go_ret2
          exact ⟨by simp [bestV, bestOk, H1.out, H2.out], Fr.refl _⟩

def cmpI (p q : Int) : Int := if p < q then -1 else if q < p then 1 else 0

theorem compared_any (p q r s : Int) (w : World) :
    Calls Try.prog 36 #[.agg #[.int .i64 p, .int .i64 q], .agg #[.int .i64 r, .int .i64 s]] w fun e w' => e = .returned (.int .i64 (cmpI (wrap64 (p * s)) (wrap64 (r * q)))) ∧ Fr w w' := by
  go_enter Try.func36, Try.ntmps36
  go_wp2
  go_quiet (fail)
  go_wp2
  all_goals (go_ret; exact ⟨ret_int (by unfold cmpI; split <;> (try split) <;> omega), by repeat (first | exact Fr.refl _ | apply Fr.drew' | apply Fr.alloc)⟩)

theorem gcd_step (a b : Int) : Int.gcd b (a.tmod b) = Int.gcd a b := by
  unfold Int.gcd; rw [Int.natAbs_tmod, Nat.gcd_comm b.natAbs, ← Nat.gcd_rec b.natAbs a.natAbs, Nat.gcd_comm]

theorem tmod_bd (a b : Int) (hb : b ≠ 0) : (a.tmod b).natAbs < b.natAbs := by
  rw [Int.natAbs_tmod]; exact Nat.mod_lt _ (by omega)

theorem commonDivisor_any (a b : Int) (w : World) (ha : -9223372036854775807 ≤ a ∧ a ≤ 9223372036854775807) (hb : -9223372036854775807 ≤ b ∧ b ≤ 9223372036854775807) :
    Calls Try.prog 65 #[.int .i64 a, .int .i64 b] w fun e w' => e = .returned (.int .i64 (Int.gcd a b : Nat)) ∧ Fr w w' := by
  go_enter Try.func65, Try.ntmps65
  go_wp2
  go_loopw [0, 1] (fun p q wr => ∃ c d : Int, p = .int .i64 c ∧ q = .int .i64 d ∧ Hid (Int.gcd c d = Int.gcd a b) ∧ (-9223372036854775807 ≤ c ∧ c ≤ 9223372036854775807) ∧ (-9223372036854775807 ≤ d ∧ d ≤ 9223372036854775807) ∧ Fr w wr) (fun _ q _ => (intOf q).natAbs)
  case atStart => exact ⟨a, b, rfl, rfl, Lib.hid rfl, ha, hb, Fr.refl _⟩
  case round =>
    obtain ⟨c, d, rfl, rfl, hg, hc, hd, hf⟩ := hrel
    clear ha hb
    by_cases h0 : d = 0
    · subst h0
      go_wp2
      all_goals (go_ret; exact ⟨ret_int (by rw [← hg.out]; simp; omega), hf⟩)
    · have hz : (d == 0) = false := by simpa using h0
      have hm := tmod_bd c d h0
      have hs := Lib.hid (gcd_step c d)
      clear h0
      go_wp2
      go_quiet (fail)
      go_wp2
      go_roundw
      case rel => exact ⟨_, _, rfl, rfl, Lib.hid (by rw [hs.out, hg.out]), hd, by omega, hf.drew' _⟩
      case measure => simp only [intOf]; exact hm

theorem l2Gcd_any (a b : Int) (w : World) (ha : 0 ≤ a ∧ a ≤ 9223372036854775807) (hb : 0 ≤ b ∧ b ≤ 9223372036854775807) :
    Calls Try.prog 63 #[.int .i64 a, .int .i64 b] w fun e w' => e = .returned (.int .i64 (Int.gcd a b : Nat)) ∧ Fr w w' := by
  go_enter Try.func63, Try.ntmps63
  go_wp2
  go_loopw [0, 1] (fun p q wr => ∃ c d : Int, p = .int .i64 c ∧ q = .int .i64 d ∧ Hid (Int.gcd c d = Int.gcd a b) ∧ (0 ≤ c ∧ c ≤ 9223372036854775807) ∧ (0 ≤ d ∧ d ≤ 9223372036854775807) ∧ Fr w wr) (fun _ q _ => (intOf q).natAbs)
  case atStart => exact ⟨a, b, rfl, rfl, Lib.hid rfl, ha, hb, Fr.refl _⟩
  case round =>
    obtain ⟨c, d, rfl, rfl, hg, hc, hd, hf⟩ := hrel
    clear ha hb
    by_cases h0 : 0 < d
    · have h1 := Int.emod_nonneg c (show d ≠ 0 by omega)
      have h2 := Int.emod_lt_of_pos c h0
      have hs : Hid (Int.gcd d (c % d) = Int.gcd c d) := Lib.hid (by rw [← gcd_step c d, Int.tmod_eq_emod_of_nonneg hc.1])
      go_wp2
      go_quiet (fail)
      go_wp2
      go_roundw
      case rel => exact ⟨_, _, rfl, rfl, Lib.hid (by rw [hs.out, hg.out]), hd, by omega, hf.drew' _⟩
      case measure => simp only [intOf]; omega
    · have : d = 0 := by omega
      subst this
      go_wp2
      go_ret
      exact ⟨ret_int (by rw [← hg.out]; simp; omega), hf⟩

/-- A quotient in lowest terms. -/
def lowP (a b : Int) : Int := a.tdiv (Int.gcd a b : Nat)
def lowQ (a b : Int) : Int := b.tdiv (Int.gcd a b : Nat)
def lowOk (a b : Int) : Bool := inB (lowP a b) (-1000000000) 1000000000 && decide (lowQ a b ≤ 1000000)
def lowA (a b : Int) : Int := bif lowOk a b then lowP a b else 0
def lowB (a b : Int) : Int := bif lowOk a b then lowQ a b else 0

theorem gcd_pos {a b : Int} (hb : 0 < b) : 1 ≤ (Int.gcd a b : Int) ∧ (Int.gcd a b : Int) ≤ b := by
  have h1 : 0 < Int.gcd a b := Int.gcd_pos_of_ne_zero_right a (by omega)
  have h2 : (Int.gcd a b : Int) ∣ b := Int.gcd_dvd_right a b
  have h3 := Int.le_of_dvd hb h2
  omega

theorem tdiv_rng {a d : Int} (ha : -9223372036854775807 ≤ a ∧ a ≤ 9223372036854775807) (hd : 1 ≤ d) : -9223372036854775807 ≤ a.tdiv d ∧ a.tdiv d ≤ 9223372036854775807 := by
  have h : (a.tdiv d).natAbs ≤ a.natAbs := by rw [Int.natAbs_tdiv]; exact Nat.div_le_self _ _
  omega

theorem lowest_any (a b : Int) (w : World) (ha : -9223372036854775807 ≤ a ∧ a ≤ 9223372036854775807) (hb : 0 < b ∧ b ≤ 9223372036854775807) :
    Calls Try.prog 43 #[.int .i64 a, .int .i64 b] w fun e w' => e = .returned (.tuple #[.agg #[.int .i64 (lowA a b), .int .i64 (lowB a b)], .bool (lowOk a b)]) ∧ Fr w w' := by
  have hg := gcd_pos (a := a) hb.1
  have hp := tdiv_rng ha hg.1
  have hq := tdiv_rng (a := b) (by omega) hg.1
  have hp' : -9223372036854775807 ≤ lowP a b ∧ lowP a b ≤ 9223372036854775807 := hp
  have hq' : -9223372036854775807 ≤ lowQ a b ∧ lowQ a b ≤ 9223372036854775807 := hq
  have hz : ((Int.gcd a b : Nat) : Int) ≠ 0 := by omega
  have hz' : (((Int.gcd a b : Nat) : Int) == 0) = false := by simpa using hz
  cases h1 : inB (a.tdiv (Int.gcd a b : Nat)) (-1000000000) 1000000000 with
  | false =>
    have H1 := Lib.hid h1
    have HV : Hid (lowA a b = 0) := Lib.hid (by simp [lowA, lowOk, lowP, lowQ, h1])
    have HW : Hid (lowB a b = 0) := Lib.hid (by simp [lowB, lowOk, lowP, lowQ, h1])
    have HO : Hid (lowOk a b = false) := Lib.hid (by simp [lowOk, lowP, lowQ, h1])
    go_enter Try.func43, Try.ntmps43
    go_wp2_with fail
    refine (commonDivisor_any _ _ _ ha (by omega)).mono ?_
    rintro e w1 ⟨rfl, f1⟩
    have c0 := f1.newCell (j := 0) rfl
    have c1 := f1.newCell (j := 1) rfl
    have c2 := f1.newFree 0
    have c3 := f1.newFree 1
    have c4 := f1.newSize
    go_wp2
    go_quiet (fail)
    go_wp2_with (go_at_call 39; refine (within_any _ _ _ _).mono ?_; rintro e w' ⟨rfl, rfl⟩)
    refine bodyPost_ret (v := .tuple #[.agg #[.int .i64 0, .int .i64 0], .bool false]) (by simp [results, Try.results43, go_sem, c0, c1]) rfl ⟨by rw [HV.out, HW.out, HO.out], ?_⟩
    exact (((((Fr.refl w).alloc _).trans f1).drew' _).setCell (Nat.le_refl _) _).setCell (Nat.le_refl _) _
  | true =>
    by_cases h2 : b.tdiv (Int.gcd a b : Nat) ≤ 1000000
    · have HV : Hid (lowA a b = (a.tdiv (Int.gcd a b : Nat))) := Lib.hid (by simp [lowA, lowOk, lowP, lowQ, h1, h2])
      have HW : Hid (lowB a b = (b.tdiv (Int.gcd a b : Nat))) := Lib.hid (by simp [lowB, lowOk, lowP, lowQ, h1, h2])
      have HO : Hid (lowOk a b = true) := Lib.hid (by simp [lowOk, lowP, lowQ, h1, h2])
      go_enter Try.func43, Try.ntmps43
      go_wp2_with fail
      refine (commonDivisor_any _ _ _ ha (by omega)).mono ?_
      rintro e w1 ⟨rfl, f1⟩
      have c0 := f1.newCell (j := 0) rfl
      have c1 := f1.newCell (j := 1) rfl
      have c2 := f1.newFree 0
      have c3 := f1.newFree 1
      have c4 := f1.newSize
      go_wp2
      go_quiet (fail)
      go_wp2_with (go_at_call 39; refine (within_any _ _ _ _).mono ?_; rintro e w' ⟨rfl, rfl⟩)
      refine bodyPost_ret (v := .tuple #[.agg #[.int .i64 (a.tdiv (Int.gcd a b : Nat)), .int .i64 (b.tdiv (Int.gcd a b : Nat))], .bool true]) (by simp [results, Try.results43, go_sem, c0, c1]) rfl ⟨by rw [HV.out, HW.out, HO.out], ?_⟩
      exact (((((Fr.refl w).alloc _).trans f1).drew' _).setCell (Nat.le_refl _) _).setCell (Nat.le_refl _) _
    · have HV : Hid (lowA a b = 0) := Lib.hid (by simp [lowA, lowOk, lowP, lowQ, h1, h2])
      have HW : Hid (lowB a b = 0) := Lib.hid (by simp [lowB, lowOk, lowP, lowQ, h1, h2])
      have HO : Hid (lowOk a b = false) := Lib.hid (by simp [lowOk, lowP, lowQ, h1, h2])
      go_enter Try.func43, Try.ntmps43
      go_wp2_with fail
      refine (commonDivisor_any _ _ _ ha (by omega)).mono ?_
      rintro e w1 ⟨rfl, f1⟩
      have c0 := f1.newCell (j := 0) rfl
      have c1 := f1.newCell (j := 1) rfl
      have c2 := f1.newFree 0
      have c3 := f1.newFree 1
      have c4 := f1.newSize
      go_wp2
      go_quiet (fail)
      go_wp2_with (go_at_call 39; refine (within_any _ _ _ _).mono ?_; rintro e w' ⟨rfl, rfl⟩)
      refine bodyPost_ret (v := .tuple #[.agg #[.int .i64 0, .int .i64 0], .bool false]) (by simp [results, Try.results43, go_sem, c0, c1]) rfl ⟨by rw [HV.out, HW.out, HO.out], ?_⟩
      exact (((((Fr.refl w).alloc _).trans f1).drew' _).setCell (Nat.le_refl _) _).setCell (Nat.le_refl _) _

theorem l2Abs_any (a : Int) (w : World) (ha : -9223372036854775807 ≤ a ∧ a ≤ 9223372036854775807) :
    Calls Try.prog 64 #[.int .i64 a] w fun e w' => e = .returned (.int .i64 (a.natAbs : Nat)) ∧ w = w' := by
  go_enter Try.func64, Try.ntmps64
  go_wp2_with (go_at_call 42; refine (l1Most_any _ _ _).mono ?_; rintro e w' ⟨rfl, rfl⟩)
  go_ret
  exact ⟨ret_int (by omega), rfl⟩

theorem l2Cut_any (a b : Int) (w : World) (ha : -9223372036854775807 ≤ a ∧ a ≤ 9223372036854775807) (hb : 0 < b ∧ b ≤ 9223372036854775807) :
    Calls Try.prog 41 #[.int .i64 a, .int .i64 b] w fun e w' => e = .returned (.agg #[.int .i64 (lowP a b), .int .i64 (lowQ a b)]) ∧ Fr w w' := by
  have hg := gcd_pos (a := a) hb.1
  have hp := tdiv_rng ha hg.1
  have hq := tdiv_rng (a := b) (by omega) hg.1
  have hz : ((Int.gcd a b : Nat) : Int) ≠ 0 := by omega
  have hz' : (((Int.gcd a b : Nat) : Int) == 0) = false := by simpa using hz
  have HG : Hid (Int.gcd (a.natAbs : Int) b = Int.gcd a b) := Lib.hid (by simp [Int.gcd])
  go_enter Try.func41, Try.ntmps41
  go_wp2_with fail
  refine (l2Abs_any _ _ ha).mono ?_
  rintro e w' ⟨rfl, rfl⟩
  go_wp2_with fail
  refine (l2Gcd_any _ _ _ (by omega) (by omega)).mono ?_
  rintro e w1 ⟨rfl, f1⟩
  rw [HG.out]
  have c0 := f1.newCell (j := 0) rfl
  have c1 := f1.newCell (j := 1) rfl
  have c2 := f1.newFree 0
  have c3 := f1.newFree 1
  have c4 := f1.newSize
  go_wp2
  go_region
  go_wp2
  refine bodyPost_ret (v := .agg #[.int .i64 (a.tdiv (Int.gcd a b : Nat)), .int .i64 (b.tdiv (Int.gcd a b : Nat))]) (by simp [results, Try.results41, go_sem, c0, c1]) rfl ⟨rfl, ?_⟩
  exact ((((Fr.refl w).alloc _).trans f1).drew' 1 |>.setCell (Nat.le_refl _) _).setCell (Nat.le_refl _) _

theorem eqIntA2_same (p q : Int) (w : World) :
    Calls Try.prog 18 #[.agg #[.int .i64 p, .int .i64 q], .agg #[.int .i64 p, .int .i64 q]] w fun e w' => e = .returned (.bool true) ∧ Fr w w' := by
  go_enter Try.func18, Try.ntmps18
  go_wp2
  have hf : Fr w ((w.alloc (.cells #[.int .i64 p, .int .i64 q] 29)).alloc (.cells #[.int .i64 p, .int .i64 q] 29)) := ((Fr.refl w).alloc _).alloc _
  go_loopw [5] (fun i wr => ∃ k : Nat, k ≤ 2 ∧ i = .int .i64 k ∧ Fr ((w.alloc (.cells #[.int .i64 p, .int .i64 q] 29)).alloc (.cells #[.int .i64 p, .int .i64 q] 29)) wr) (fun i _ => 2 - (intOf i).toNat)
  case atStart => exact ⟨0, by omega, rfl, Fr.refl _⟩
  case round =>
    obtain ⟨k, hk, rfl, hf2⟩ := hrel
    have a0 := hf2.newCell (j := 0) rfl
    have a1 := hf2.newCell (j := 1) rfl
    rw [World.size_alloc] at a0 a1
    have b0 := ((Fr.refl _).alloc _ |>.trans hf2).newCell (w := w) (j := 0) rfl
    have b1 := ((Fr.refl _).alloc _ |>.trans hf2).newCell (w := w) (j := 1) rfl
    rcases (show k = 0 ∨ k = 1 ∨ k = 2 by omega) with rfl | rfl | rfl
    · go_wp2
      go_quiet (fail)
      go_wp2
      go_roundw
      case rel => exact ⟨1, by omega, by go_num, hf2.drew' _⟩
      case measure => simp [intOf]
    · go_wp2
      go_quiet (fail)
      go_wp2
      go_roundw
      case rel => exact ⟨2, by omega, by go_num, hf2.drew' _⟩
      case measure => simp [intOf]
    · go_wp2
      go_ret
      exact ⟨rfl, hf.trans hf2⟩

theorem bet_prods {a b x y : Int} (h : betB a b x y = true) : (0 ≤ x * a ∧ x * a ≤ 36) ∧ (0 ≤ y * b ∧ y * b ≤ 36) ∧ 0 < (x + y) * a ∧ (x + y) * a ≤ 72 := by
  obtain ⟨⟨a1, a2⟩, ⟨b1, b2⟩, ⟨x1, x2⟩, ⟨y1, y2⟩, h5⟩ := betB_iff.1 h
  have h1 := Int.mul_nonneg x1 (show 0 ≤ a by omega)
  have h2 := Int.mul_nonneg y1 (show 0 ≤ b by omega)
  have h3 := Int.mul_le_mul x2 a2 (by omega) (by omega : (0 : Int) ≤ 4)
  have h4 := Int.mul_le_mul y2 b2 (by omega) (by omega : (0 : Int) ≤ 4)
  have h6 := Int.mul_pos h5 (show 0 < a by omega)
  have h7 := Int.mul_le_mul (show x + y ≤ 8 by omega) a2 (by omega) (by omega : (0 : Int) ≤ 8)
  omega
def fairX (a b x y : Int) : Int := max 0 (x * a - y * b)
def fairA (a b x y : Int) : Int := bif betB a b x y then lowP (fairX a b x y) ((x + y) * a) else 0
def fairB (a b x y : Int) : Int := bif betB a b x y then lowQ (fairX a b x y) ((x + y) * a) else 0

theorem lowOk_small {p q : Int} (hp : -1000000000 ≤ p ∧ p ≤ 1000000000) (hq : 0 < q ∧ q ≤ 1000000) : lowOk p q = true := by
  have hg := gcd_pos (a := p) hq.1
  have h1 : (lowP p q).natAbs ≤ p.natAbs := by unfold lowP; rw [Int.natAbs_tdiv]; exact Nat.div_le_self _ _
  have h2 : (lowQ p q).natAbs ≤ q.natAbs := by unfold lowQ; rw [Int.natAbs_tdiv]; exact Nat.div_le_self _ _
  simp only [lowOk, Bool.and_eq_true, inB_iff, decide_eq_true_eq]
  omega

theorem impl_FairShare_any (w : World) (a b x y : Int) (_ : I64 a) (_ : I64 b) (_ : I64 x) (_ : I64 y) :
    Calls Try.prog 17 #[.int .i64 a, .int .i64 b, .int .i64 x, .int .i64 y] w fun e w' => e = .returned (.tuple #[.agg #[.int .i64 (fairA a b x y), .int .i64 (fairB a b x y)], .bool (betB a b x y)]) ∧ Fr w w' := by
  cases h1 : betB a b x y with
  | false =>
    have H1 := Lib.hid h1
    go_enter Try.func17, Try.ntmps17
    go_wp2_with (go_at_call 35; refine (isBet_any _ _ _ _ _).mono ?_; rintro e w' ⟨rfl, rfl⟩)
    refine bodyPost_ret (v := .tuple #[.agg #[.int .i64 0, .int .i64 0], .bool false]) (by simp [results, Try.results17, go_sem]) rfl ⟨by simp [fairA, fairB, H1.out], ?_⟩
    repeat (first | exact Fr.refl _ | apply Fr.alloc | (refine Fr.setCell ?_ (Nat.le_refl _) _))
  | true =>
    have H1 := Lib.hid h1
    have hb := bet_prods h1
    have hl : lowOk (fairX a b x y) ((x + y) * a) = true := lowOk_small (by unfold fairX; omega) (by omega)
    have HL := Lib.hid hl
    have HA : Hid (lowA (fairX a b x y) ((x + y) * a) = fairA a b x y) := Lib.hid (by simp [fairA, lowA, hl, h1])
    have HB : Hid (lowB (fairX a b x y) ((x + y) * a) = fairB a b x y) := Lib.hid (by simp [fairB, lowB, hl, h1])
    clear hl
    have hc := betB_iff.1 h1
    have hx : (y * b < x * a ∧ fairX a b x y = x * a - y * b) ∨ (x * a ≤ y * b ∧ fairX a b x y = 0) := by unfold fairX; omega
    rcases hx with ⟨hm, hx⟩ | ⟨hm, hx⟩
    all_goals rw [hx] at HA HB HL
    all_goals clear hx
    all_goals
      go_enter Try.func17, Try.ntmps17
      go_wp2_with fail
      refine (isBet_any _ _ _ _ _).mono ?_
      rintro e w' ⟨rfl, rfl⟩
      go_wp2_with fail
      refine (lowest_any _ _ _ (by omega) (by omega)).mono ?_
      rintro e w1 ⟨rfl, f1⟩
      rw [HA.out, HB.out, HL.out]
      have c0 := f1.newCell (j := 0) rfl
      have c1 := f1.newCell (j := 1) rfl
      have c2 := f1.newFree 0
      have c3 := f1.newFree 1
      have c4 := f1.newSize
      go_wp2
      refine bodyPost_ret (v := .tuple #[.agg #[.int .i64 (fairA a b x y), .int .i64 (fairB a b x y)], .bool true]) (by simp [results, Try.results17, go_sem, c0, c1]) rfl ⟨rfl, ?_⟩
      exact ((((Fr.refl w).alloc _).trans f1).setCell (Nat.le_refl _) _).setCell (Nat.le_refl _) _

theorem spec_FairShare_any (w : World) (a b x y : Int) (_ : I64 a) (_ : I64 b) (_ : I64 x) (_ : I64 y) :
    Calls Try.prog 16 #[.int .i64 a, .int .i64 b, .int .i64 x, .int .i64 y] w fun e w' => e = .returned (.tuple #[.agg #[.int .i64 (fairA a b x y), .int .i64 (fairB a b x y)], .bool (betB a b x y)]) ∧ Fr w w' := by
  cases h1 : betB a b x y with
  | false =>
    have H1 := Lib.hid h1
    go_enter Try.func16, Try.ntmps16
    go_wp2_with (go_at_call 34; refine (l11Bet_any _ _ _ _ _).mono ?_; rintro e w' ⟨rfl, rfl⟩)
    refine bodyPost_ret (v := .tuple #[.agg #[.int .i64 0, .int .i64 0], .bool false]) (by simp [results, Try.results16, go_sem]) rfl ⟨by simp [fairA, fairB, H1.out], ?_⟩
    repeat (first | exact Fr.refl _ | apply Fr.alloc | (refine Fr.setCell ?_ (Nat.le_refl _) _))
  | true =>
    have H1 := Lib.hid h1
    have hb := bet_prods h1
    have HA : Hid (lowP (fairX a b x y) ((x + y) * a) = fairA a b x y) := Lib.hid (by simp [fairA, h1])
    have HB : Hid (lowQ (fairX a b x y) ((x + y) * a) = fairB a b x y) := Lib.hid (by simp [fairB, h1])
    have hc := betB_iff.1 h1
    have HX : Hid (max (x * a - y * b) 0 = fairX a b x y) := by unfold Hid fairX; omega
    have hX : 0 ≤ fairX a b x y ∧ fairX a b x y ≤ 36 := by unfold fairX; omega
    go_enter Try.func16, Try.ntmps16
    go_wp2_with fail
    refine (l11Bet_any _ _ _ _ _).mono ?_
    rintro e w' ⟨rfl, rfl⟩
    go_wp2_with fail
    refine (l1Most_any _ _ _).mono ?_
    rintro e w' ⟨rfl, rfl⟩
    rw [HX.out]
    go_wp2_with fail
    refine (l2Cut_any _ _ _ (by omega) (by omega)).mono ?_
    rintro e w1 ⟨rfl, f1⟩
    rw [HA.out, HB.out]
    have c0 := f1.newCell (j := 0) rfl
    have c1 := f1.newCell (j := 1) rfl
    have c2 := f1.newFree 0
    have c3 := f1.newFree 1
    have c4 := f1.newSize
    go_wp2
    refine bodyPost_ret (v := .tuple #[.agg #[.int .i64 (fairA a b x y), .int .i64 (fairB a b x y)], .bool true]) (by simp [results, Try.results16, go_sem, c0, c1]) rfl ⟨rfl, ?_⟩
    exact ((((Fr.refl w).alloc _).trans f1).setCell (Nat.le_refl _) _).setCell (Nat.le_refl _) _

def fbV (a b x y : Int) : Int := bif betB a b x y then cmpI (x * a) (y * b) else 0
theorem impl_IsFairBet_any (w : World) (a b x y : Int) (_ : I64 a) (_ : I64 b) (_ : I64 x) (_ : I64 y) :
    Calls Try.prog 11 #[.int .i64 a, .int .i64 b, .int .i64 x, .int .i64 y] w fun e w' => e = .returned (.tuple #[.int .i64 (fbV a b x y), .bool (betB a b x y)]) ∧ Fr w w' := by
  cases h1 : betB a b x y with
  | false =>
    have H1 := Lib.hid h1
    go_enter Try.func11, Try.ntmps11
    go_wp2_with (go_at_call 35; refine (isBet_any _ _ _ _ _).mono ?_; rintro e w' ⟨rfl, rfl⟩)
    go_ret2
    exact ⟨by simp [fbV, H1.out], Fr.refl _⟩
  | true =>
    have H1 := Lib.hid h1
    have hb := bet_prods h1
    have hc := betB_iff.1 h1
    have HW1 : Hid (wrap64 (x * a * 1) = x * a) := by unfold Hid wrap64; omega
    have HW2 : Hid (wrap64 (y * b * 1) = y * b) := by unfold Hid wrap64; omega
    go_enter Try.func11, Try.ntmps11
    go_wp2_with fail
    refine (isBet_any _ _ _ _ _).mono ?_
    rintro e w' ⟨rfl, rfl⟩
    go_wp2_with fail
    refine (compared_any _ _ _ _ _).mono ?_
    rintro e w1 ⟨rfl, f1⟩
    rw [HW1.out, HW2.out]
    go_wp2
    go_ret2
    exact ⟨by simp [fbV, H1.out], f1⟩

theorem spec_IsFairBet_any (w : World) (a b x y : Int) (_ : I64 a) (_ : I64 b) (_ : I64 x) (_ : I64 y) :
    Calls Try.prog 10 #[.int .i64 a, .int .i64 b, .int .i64 x, .int .i64 y] w fun e w' => e = .returned (.tuple #[.int .i64 (fbV a b x y), .bool (betB a b x y)]) ∧ Fr w w' := by
  cases h1 : betB a b x y with
  | false =>
    have H1 := Lib.hid h1
    go_enter Try.func10, Try.ntmps10
    go_wp2_with (go_at_call 34; refine (l11Bet_any _ _ _ _ _).mono ?_; rintro e w' ⟨rfl, rfl⟩)
    go_ret2
    exact ⟨by simp [fbV, H1.out], Fr.refl _⟩
  | true =>
    have H1 := Lib.hid h1
    have hb := bet_prods h1
    have hc := betB_iff.1 h1
    go_enter Try.func10, Try.ntmps10
    go_wp2_with (go_at_call 34; refine (l11Bet_any _ _ _ _ _).mono ?_; rintro e w' ⟨rfl, rfl⟩)
    all_goals (go_ret2; exact ⟨by simp only [fbV, H1.out, cond_true, cmpI]; (repeat' split) <;> first | rfl | omega, Fr.refl _⟩)

end Go.Proofs.Ytfjonnpaoeillaa
