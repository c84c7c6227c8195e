import Derived.Test.YtfdidelonilnmaaLists
/- Contracts of chapter 11's bets and shares. -/
set_option linter.unusedVariables false
namespace Go.Proofs.Ytfdidelonilnmaa
open Go.ChangeShapes Go.WideShapes Go.ChangeAt Go.RowKit

def luckB (w l : Int) : Bool := inB w 0 4 && inB l 0 4 && decide (0 < w + l)
theorem luckB_iff {w l : Int} : luckB w l = true ↔ (0 ≤ w ∧ w ≤ 4) ∧ (0 ≤ l ∧ l ≤ 4) ∧ 0 < w + l := by
  simp [luckB, inB_iff, and_assoc]

theorem isLuck_any (a b : Int) (w : World) :
    Calls Try.prog 61 #[.int .i64 a, .int .i64 b] w fun e w' => e = .returned (.bool (luckB a b)) ∧ w = w' := by
  cases h1 : inB a 0 4 with
  | false =>
    have H1 := Lib.hid h1
    go_enter Try.func61, Try.ntmps61
    go_wp2_with (go_at_call 56; refine (within_any _ _ _ _).mono ?_; rintro e w' ⟨rfl, rfl⟩)
    go_ret
    exact ⟨ret_bool (by rw [luckB, H1.out]; rfl), rfl⟩
  | true =>
    have H1 := Lib.hid h1
    have := inB_iff.1 h1
    cases h2 : inB b 0 4 with
    | false =>
      have H2 := Lib.hid h2
      go_enter Try.func61, Try.ntmps61
      go_wp2_with (go_at_call 56; refine (within_any _ _ _ _).mono ?_; rintro e w' ⟨rfl, rfl⟩)
      go_ret
      exact ⟨ret_bool (by rw [luckB, H1.out, H2.out]; rfl), rfl⟩
    | true =>
      have H2 := Lib.hid h2
      have := inB_iff.1 h2
      go_enter Try.func61, Try.ntmps61
      go_wp2_with (go_at_call 56; refine (within_any _ _ _ _).mono ?_; rintro e w' ⟨rfl, rfl⟩)
      go_ret
      exact ⟨ret_bool (by rw [luckB, H1.out, H2.out]; simp), rfl⟩

theorem l11Luck_any (a b : Int) (w : World) :
    Calls Try.prog 59 #[.int .i64 a, .int .i64 b] w fun e w' => e = .returned (.bool (luckB a b)) ∧ w = w' := by
  cases h1 : inB a 0 4 with
  | false =>
    have H1 := Lib.hid h1
    go_enter Try.func59, Try.ntmps59
    go_wp2_with (go_at_call 58; refine (l1In_any _ _ _ _).mono ?_; rintro e w' ⟨rfl, rfl⟩)
    go_ret
    exact ⟨ret_bool (by rw [luckB, H1.out]; rfl), rfl⟩
  | true =>
    have H1 := Lib.hid h1
    have := inB_iff.1 h1
    cases h2 : inB b 0 4 with
    | false =>
      have H2 := Lib.hid h2
      go_enter Try.func59, Try.ntmps59
      go_wp2_with (go_at_call 58; refine (l1In_any _ _ _ _).mono ?_; rintro e w' ⟨rfl, rfl⟩)
      go_ret
      exact ⟨ret_bool (by rw [luckB, H1.out, H2.out]; rfl), rfl⟩
    | true =>
      have H2 := Lib.hid h2
      have := inB_iff.1 h2
      go_enter Try.func59, Try.ntmps59
      go_wp2_with (go_at_call 58; refine (l1In_any _ _ _ _).mono ?_; rintro e w' ⟨rfl, rfl⟩)
      go_ret
      exact ⟨ret_bool (by rw [luckB, H1.out, H2.out]; simp), rfl⟩

def betB (a b w l : Int) : Bool := inB a 1 9 && inB b 1 9 && luckB w l
theorem betB_iff {a b w l : Int} : betB a b w l = true ↔ (1 ≤ a ∧ a ≤ 9) ∧ (1 ≤ b ∧ b ≤ 9) ∧ (0 ≤ w ∧ w ≤ 4) ∧ (0 ≤ l ∧ l ≤ 4) ∧ 0 < w + l := by
  simp [betB, inB_iff, luckB_iff, and_assoc]

/-- a to the power of k, as the machine reckons it. -/
def powW (a : Int) : Nat → Int
  | 0 => 1
  | k + 1 => wrap64 (powW a k * a)

def cmpI (p q : Int) : Int := if p < q then -1 else if q < p then 1 else 0

end Go.Proofs.Ytfdidelonilnmaa
